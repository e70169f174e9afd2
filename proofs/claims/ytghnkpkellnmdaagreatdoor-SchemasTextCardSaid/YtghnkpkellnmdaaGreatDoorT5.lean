/- Joined texts, part 5 of 13. Contracts: the definitions. Condition: the program is the seat's, and its intervals are laid. -/
import Derived.Test.YtghnkpkellnmdaaGreatDoorT4
import Derived.Test.YtghnkpkellnmdaaGreatDoorProg
import Derived.KernelRfl
set_option maxRecDepth 100000
set_option linter.unusedSimpArgs false
set_option linter.unusedVariables false
set_option linter.unusedSectionVars false
set_option linter.defProp false
namespace Go.Ab
open Go Go.Proofs
open Go.Proofs.Tryz (prog)
variable {P:BE}(hP:P.p=prog)
def n42:Nat:=0x1b5a0382f50b27c6001a7661702517c2ed7c404e4452ed27014145f0002ed05c6e22ed8622ed52d0492ed98b01ec0501d17c22134404844522116d6d07c05e1bb206a26601617c0cb1c200203f0d70cba7e19d45f0000cb05c6e232e079011b59a272b220600203d0d70c803e74d05c09c29805498701d1793ec4ca0946a103b038559ab317524b0b2a4d07c00908f03a0381815c878549b4887471783c94955f4198aad0540974be637
def Zoq:S:=zS [] n42
def Zss:Nat:=0x10a012c0c111600903627f1070020351acc3d8ac04002c76c31f02a04c02a06502906a9b92970282083984f2398ada9a68153985299cb73206a01d0082250212083e602004c3e601f0793e601e1b83e65293e601c00001b76f22501a2081117178080797a61a211152984d06a7fe22501320830201223f03d0110793020101743025293021ea00d06ac7138300c208127ad412700a0793dd28212704b1cd09b2973a40d80691f704b0288da3c9113
def Y21:S:=zS [] Zss
def Zst:Nat:=0x17440d209c03c3de08a0045543b91981782518a13fe0605c304029525a
def Y22:S:=zS [] Zst
def Yc5:Nat:=0x100093202e4031e800d0cc02f8b49326680b03ea0290a899702b06d4dd02a87196c02a7b55040280f50288de0080621b40271500210a802604117c81da637e719e03a0bc3ef05d0242c13efa0517481d29919d81d80019d81d0200cc01f9a134b01ea945af01d2df5af008282ae90000b65f001b07e00f1792fe4380623270190cc3290094e73470010117f7011a113e901730f07e0160419ea19e0390bc2f9008a9621814005404001389a09d2fe00806216c0100a8007c3422f00f86b89d16160300e1e600e8de06216ca590eb00f1fb
def Yc6:Nat:=0x1b8e82002101a073019732b9c02004c0202c206001f0f101dad00bc04d35080001e4beb8e0df01c3c7c1f4ec01b3c40195591af01a08315714206001801900d01b082
def sN:Nat:=0x10a059f0c102f0be03b0bc0060302040420b59323dc93230c70909139b12009c00a0ce5490621410301413584d231fc5717f08a44c1500e833fbba0ea030a660050be06e2a10040f50300902df0301020411b80300a10cc27600312f78413204606c784b1c2a1a869c97840bf07e7841371742a10f309d0305460360207841341b82a19fe2a112c05202c06a8491070284bd377a8937702b07937702a17437702909d3775293771a59cd14a02500d0d89a37495361c20633a50a436f46201c04523a0650240e1c3814509c4090700552c28200a52c28200939b501604601515309c01602010531f9300650135a6008297b772ab011108bd09e61a22ab9fe2abaf01940010370bc8003a800a8da9f6113
def Y23:S:=zS [(zS [] Yc6),(zS [] Yc5)] sN
def Zzc:Nat:=0x1bc903c1ac6a103d45f9446d4846
def Zee:S:=zS [] Zzc
def Zji:Xp prog 117 2 Zee [.t 4]=true:=by kernel_rfl
def Zzd:Nat:=0x1bc903e1ac6a103f45f94404302b846
def Zef:S:=zS [] Zzd
def Zjk:Xp prog 119 2 Zef [.t 4]=true:=by kernel_rfl
def Yc7:Nat:=0x1055a2900687910f9e20cc3912c30120f526800a63a1e501115000f0a801204a71320800f05d31600f05d00e6b800d0eb07cab73cb05563a0081e50c40f100a4c906d004af923c00b1e610f00a63a1e51d27590841fb
def nE:Nat:=0x10002e88050cc1e81328288b400a00aa29097076055a290060570880be0da52b0090ce0861830070f500746c0060020970412f119e0410492d00041400710990480bb06c5492e82350022769002d50018fe1320f300b1af0000c722246c0761371320c81fb
def sO:Nat:=0x125c2e80870a52e80870930f300413f841035319183b1c0330acab077f1861340ea1c3afa1c312c09d1c31162821c305710700b1b6890a1845cbfd06a63f7380282083c04f23c0ada02545c3c037206a35915602200d06e11f836b2001f45c390aa706a01a14d90501c2086b407901a51756000001806a4001567b806e7bf975517ba806a1ff57f4bd1f101114ebd01f100f09d1f16c01f100d07900c4f961814a96100915b7b602002b461b2a8dc
def Y25:S:=zS [(zS [(zS [] Yc7)] nE)] sO
def Zsv:Nat:=0x18bf6fe04821e05c0458d99447ea846
def Y26:S:=zS [] Zsv
def Zze:Nat:=0x1bc90351ac05c0448d994480d846
def Zeg:S:=zS [] Zze
def Zjn:Xp prog 122 2 Zeg [.t 4]=true:=by kernel_rfl
def Yc8:Nat:=0x1000b647daa7a00001c2c380933416201907801a86d3340081620183800074e72a400101009b0100180250162ca1c2011b0501435708d01235708c24701201f00c09d33400616200f0bb0148f92d513653000a0041af00d08386316200b30d00e082
def sQ:Nat:=0x107702323197a27738302118162836d39014a01d21d01ca2301d020859b640a5b64057055aa115b05400a3191f2b138dc
def Y27:S:=zS [(zS [] Yc8)] sQ
def Yc9:Nat:=0x10001422b070f019073018270ac400c7289a453606002080b01c0872d0148af60d004d00401d01f00609d5360df01b0690144644ec37a04d01825f1af01908399c0609ee00d01a082
def sT:Nat:=0x1a6a142a2a0a5142a2a09325f01505913d01631917500c728930065a927fe738b7730201123fbd030252d0493021ea00d06a07873800c20842dad442d00a0790090a11b842d0082430071b70bb00571e89b01005e3d8b4c
def Y28:S:=zS [(zS [] Yc9)] sT
def Zti:Nat:=0x1957030955
def Y4b:S:=zS [] Zti
def Zab:Xp prog 173 2 Y4b [.t 4]=true:=by kernel_rfl
def Ztj:Nat:=0x10a00060c10083830051cb0690034f3076460b31
def Y4c:S:=zS [] Ztj
def Ydv:Nat:=0x1000b630696ed976047038b9c0030c70440386cf0600021501320081860012fa3f50002df3f500509d3f5b2e26d0368846cf73c13f0008814e731400110709b10703402512202e01e1348b0b9906e12c1150041531d384f00b04205c007a8902cbc408f98211d7eb6e505002a31931f7a9028bc400702706a3590260214bd11f73911f72011f02317453d09d11f529b2011f00417439014a01d1b7a1e3e301d02000d179bc400601b1ba0140190d2bec4ec37a0b901701533f0172840180835360150600167b8019082
def sw:Nat:=0x194db630040a5b630040930152f304601310300605602010531fa3606501106a1ff1860102081f100f14e03d00e0791f100d1741f19fe618243961b7355610309c00802000c8da9f6113
def Y4d:S:=zS [(zS [] Ydv)] sw
def Ydw:Nat:=0x1000b363ea0151e80140cc02d0382c302b0f502b0386520d8052bd70a8a851bc85b73785b0270cc0261500230a8186025a9402305d0242df02305d08627005d577a208e911d02009126202189a09d39138101218d0d801f0eb3e815001b0a824b01da9458e01c2df58e00b09d58e0b624344f11d8a38780190ce4f765243f0171b54e700c02e01614005630f04171f23c0151e62956520d88790140eb0161fb
def Ydx:Nat:=0x10009250f3ad895a0360fe
def nO:Nat:=0x120292513f0e11521341e300611e00fa8612aa0e0080710600470409aa1a91939e00090310531839431a9a0306100905211677f1071bc8900010323361c3c08054bfd35a02a2b11791a90781ed0610090280008494e722f00101f09b01f02889c4b30252b6b99024004c382db87f007115a0840800d09d1a91ed0610b01ed23e7332a401d1155390051afbfb005708c47
def s7:Nat:=0x18690b5b363dcb369990c70053810ca1830110f50111260500108a405200f0ba0a82f700e4c934e00d2920d519e0332d034e0c407100eba900914000bba9006140008ba915652809734e80107e34e68f04109734e00586634e07434e8c25d224b83011d2f70020c72f70055d242f14a13211d13726b03701e0d10e737c53107a0084620140452519250a592509379e42001604511411423a01201711500300604e015115003054016020be12bd03000611e00c01d04b1839300aca923c61d2b774cb0791493096ea24300e1b700d15b7a26174613520e69f6203
def Y4e:S:=zS [(zS [(zS [] Ydx)] nO),(zS [] Ydw)] s7
def Ztl:Nat:=0x15780b66f844f0140a89c59b405605d01709105605d7403cf2f90566e71033cf0133930120eb0a801104100f10e05c8c50101638c5a428c500e16300d6e71038c50c408100b2760a800a0a89d800605d00916300605d7400066e71630066e71450069dd3938c21321e40be10e05c0371021633f5a423f50001633f50071453f51370810f30e800813f12288d0012a11520592a126b0e92a11340592a11ed0e92a112c08111602900810702b0a74b50c20594b50041204b502a0594b50071204b50280810277570260240a7200025059200070001a8d2003e200153c08802201e033772236020acf0074e72a4a5d09b0170200253e05867e2b9901c00401b0464f600387f0051159bc01901f296b080166f80153c63a518114901305914974083b149005120b7621d412a7400b72a2961f88b51bc0322d000506000a01f6fc18c05005204573324f72b0265fb070
def Y4g:S:=zS [] Ztl
def Ydy:Nat:=0x10005c1c5413e00304d02e15c8e647484450463e13e1bd006ae8609474bd413e0050d800e3400469650d8796
def s8:Nat:=0x194d5c10a55c157c0c90ca0c6c3008f0139b72be0708cb
def Y4h:S:=zS [(zS [] Ydy)] s8
def Zzq:Nat:=0x1957034955
def Zen:S:=zS [] Zzq
def Zk2:Xp prog 180 2 Zen [.t 4]=true:=by kernel_rfl
def Zzr:Nat:=0x196316594928025a
def Zeo:S:=zS [] Zzr
def Zk3:Xp prog 181 2 Zeo [.t 3]=true:=by kernel_rfl
def Zzs:Nat:=0x1957035955
def Zep:S:=zS [] Zzs
def Zk4:Xp prog 182 2 Zep [.t 4]=true:=by kernel_rfl
def Zzt:Nat:=0x19632479491e325a
def Zeq:S:=zS [] Zzt
def Zk5:Xp prog 183 2 Zeq [.t 3]=true:=by kernel_rfl
def Ztn:Nat:=0x1957037955
def Y4j:S:=zS [] Ztn
def Zto:Nat:=0x196316594929525a
def Y4k:S:=zS [] Zto
def Zzu:Nat:=0x19632ce94914425a
def Zer:S:=zS [] Zzu
def Zk9:Xp prog 187 2 Zer [.t 3]=true:=by kernel_rfl
def Ydz:Nat:=0x1000bda01f7d10000205be13e0e90e10e14b148801c1e502d00944c04701c351160809a2c0e900801976f1420025cc1ea1112551111a584d06a26615c4bd0115460cb25527a14a0db44c010402179a2c84800e2ef412965848796
def s9:Nat:=0x1077033718122aa01341bc28f8b0ad033628f12c05902db5228f5f4b0708102b8497c76fb027473377028059027b529cd0810250222270245d1a8d022b5253c0403aa02000c0d802101e015042055bda0a5bda57c1ba04608c00931904704806e3aa0435c34a622025a
def Y4l:S:=zS [(zS [] Ydz)] s9
def Yd0:Nat:=0x1b8e52e02601a0730190000272c37390252c284802400940901f1480392d00227c39df96c04306800601f35909d2c20ad66701d0074cc01b0b03712a401c3c401955900601928401a08315714284801801900d01b082
def tB:Nat:=0x10770317180e802a00818612c0a75691160595691076e35690c214556905799509c5695f456902914a0281cb02726b0284020420552c252e0a52c252e09301726b0180ca0472ce0160e18540140d015c09719d4f108c0120203e21836152ce00f06a1c997021d7ca00d0c903d00c0467ca08c2515462c814a2b405c0f1b1f72e4a680e074
def Y4m:S:=zS [(zS [] Yd0)] tB
def Ztp:Nat:=0x15785286f800a19e0a80092760410a752200836252200716352226b0e95220053625220041635220d80e9522002393001bba0660411370a73f81320593f87403f80f305903436d3f8152081122aa013412c0a728f0e805928fa4228f11605902d090145b0714a9950617e501a042b0802a6f80299b97e90a739854e3980041209a60590244e29cb08102296e02101d0a71956ef7b001ba3f19501e05901b36d9c80591957407e33e701511d142044049016ae487ba7401804278fb7101206a7fe24b0114183024d630230930200e24300d11d00c15b04000d61705e1298e0b711c916b00904607049e549aff0520b000172b11e20d086
def Y4n:S:=zS [] Ztp
def Zt8:Nat:=0x174c8752ef01f6ec0d609b2b14b1013b0501c04301e01f01a04601908c01801633f70d0153c81ad0712a300405001d29004e01835d08c00309c70e2620130205712b30781d704d00a1bd9c155474c13a2ef0116ec00686a6150bb13800f06a1685314bd0dc222b6e00417427914a6ca07c04600408c1660490bb0616f204411c11e2d506a0390e60265fb070
def Y5l:S:=zS [] Zt8
def Zt9:Nat:=0x1bfabc500d18192026d2270085d125d44b3bf25d5f404a81905908c3ebc56
def Y5m:S:=zS [] Zt9
def Yyg:Nat:=0x1947259765be9a0b115a2bc2c
def Z0c:Nat:=0x1989
def Zez:S:=zS [(zS [] Yyg)] Z0c
def Zmg:Xp prog 236 2 Zez [.t 4]=true:=by kernel_rfl
def Yem:Nat:=0x1947259765be9a0b115a2bc2c
def tG:Nat:=0x1989
def Y5p:S:=zS [(zS [] Yem)] tG
def Zuc:Nat:=0x10772f105a3aa00800b0613aa0071bd06200a05c11b3cb212
def Y5q:S:=zS [] Zuc
def Zud:Nat:=0x14de0250f10520246176b61812ed0220592ed00a10302087a2ed01f08101e01a00801d01c18101a87ab8300a145c2e4002190493362c500aa472c529905470c08801501e8520550781380130f101200a13c12a02309f02e15509b42902501100e01e245b055cd0b70715aa00a09d00984737c7471783c934700b043198aad0da3a807005f0896f20f100035102f074
def Y5r:S:=zS [] Zud
def Zq6:S2:=zL [] [] n42
def Zvk:=(by cbv:Zq6=_)
def Z03:w_P prog 42 1 Zoq [.t 2] [] Zq6:=w_p (by kernel_rfl)
def Y6v:S2:=zL [] [] Zss
def Zbz:=(by cbv:Y6v=_)
def Zjf:w_P prog 114 1 Y21 [.t 2] [] Y6v:=w_p (by kernel_rfl)
def Y6w:S2:=zL [] [] Zst
def Zb0:=(by cbv:Y6w=_)
def Zjg:w_P prog 115 2 Y22 [.t 3] [] Y6w:=w_p (by kernel_rfl)
def gi:S2:=zL [] [] Yc5
def vQ:=(by cbv:gi=_)
def gj:S2:=zL [] [] Yc6
def vR:=(by cbv:gj=_)
def Y6x:S2:=zL [] [gj,gi] sN
def Zb1:=(show Y6x=_ from (λ(a b:S2)=>(by cbv:zL [] [a,b] sN=_)) gj gi)
def Zjh:w_P prog 116 1 Y23 [.t 2] [] Y6x:=w_p (by kernel_rfl)
def gk:S2:=zL [] [] Yc7
def vT:=(by cbv:gk=_)
def gn:S2:=zL [] [gk] nE
def vU:=(show gn=_ from (λa=>(by cbv:zL [] [a] nE=_)) gk)
def Y6z:S2:=zL [] [gn] sO
def OB:=(show Y6z=_ from (λa=>(by cbv:zL [] [a] sO=_)) gn)
def Zjl:w_P prog 120 2 Y25 [.t 4] [] Y6z:=w_p (by kernel_rfl)
def Y60:S2:=zL [] [] Zsv
def Zb2:=(by cbv:Y60=_)
def Zjm:w_P prog 121 2 Y26 [.t 4] [] Y60:=w_p (by kernel_rfl)
def gp:S2:=zL [] [] Yc8
def vm:=(by cbv:gp=_)
def Y61:S2:=zL [] [gp] sQ
def Zb3:=(show Y61=_ from (λa=>(by cbv:zL [] [a] sQ=_)) gp)
def Zjo:w_P prog 123 2 Y27 [.t 4] [] Y61:=w_p (by kernel_rfl)
def gq:S2:=zL [] [] Yc9
def vn:=(by cbv:gq=_)
def Y62:S2:=zL [] [gq] sT
def aK:=(show Y62=_ from (λa=>(by cbv:zL [] [a] sT=_)) gq)
def Zjp:w_P prog 124 1 Y28 [.t 2] [] Y62:=w_p (by kernel_rfl)
def Y71:S2:=zL [] [] Zti
def Zcp:=(by cbv:Y71=_)
def Zgh:Y4b.Af []=some Y71:=by kernel_rfl
def Y72:S2:=zL [] [] Ztj
def Zcq:=(by cbv:Y72=_)
def Zkw:w_P prog 174 1 Y4c [.t 2] [] Y72:=w_p (by kernel_rfl)
def iH:S2:=zL [] [] Ydv
def v8:=(by cbv:iH=_)
def Y73:S2:=zL [] [iH] sw
def rG:=(show Y73=_ from (λa=>(by cbv:zL [] [a] sw=_)) iH)
def Zkx:w_P prog 175 1 Y4d [.t 2] [] Y73:=w_p (by kernel_rfl)
def iI:S2:=zL [] [] Ydw
def TQ:=(by cbv:iI=_)
def iK:S2:=zL [] [] Ydx
def wC:=(by cbv:iK=_)
def iJ:S2:=zL [] [iK] nO
def wA:=(show iJ=_ from (λa=>(by cbv:zL [] [a] nO=_)) iK)
def Y74:S2:=zL [] [iJ,iI] s7
def rH:=(show Y74=_ from (λ(a b:S2)=>(by cbv:zL [] [a,b] s7=_)) iJ iI)
def Zky:w_P prog 176 2 Y4e [.t 4] [] Y74:=w_p (by kernel_rfl)
def Y76:S2:=zL [] [] Ztl
def Zcr:=(by cbv:Y76=_)
def Zk0:w_P prog 178 3 Y4g [.t 6] [] Y76:=w_p (by kernel_rfl)
def iL:S2:=zL [] [] Ydy
def wE:=(by cbv:iL=_)
def Y77:S2:=zL [] [iL] s8
def Zcs:=(show Y77=_ from (λa=>(by cbv:zL [] [a] s8=_)) iL)
def Zk1:w_P prog 179 1 Y4h [.t 2] [] Y77:=w_p (by kernel_rfl)
def Y79:S2:=zL [] [] Ztn
def Zct:=(by cbv:Y79=_)
def Zk7:w_P prog 185 2 Y4j [.t 4] [] Y79:=w_p (by kernel_rfl)
def Y8a:S2:=zL [] [] Zto
def Zcu:=(by cbv:Y8a=_)
def Zk8:w_P prog 186 2 Y4k [.t 3] [] Y8a:=w_p (by kernel_rfl)
def iM:S2:=zL [] [] Ydz
def YK:=(by cbv:iM=_)
def Y8b:S2:=zL [] [iM] s9
def Zcv:=(show Y8b=_ from (λa=>(by cbv:zL [] [a] s9=_)) iM)
def Zla:w_P prog 188 2 Y4l [.t 4] [] Y8b:=w_p (by kernel_rfl)
def iN:S2:=zL [] [] Yd0
def wF:=(by cbv:iN=_)
def Y8c:S2:=zL [] [iN] tB
def rJ:=(show Y8c=_ from (λa=>(by cbv:zL [] [a] tB=_)) iN)
def Zlb:w_P prog 189 2 Y4m [.t 4] [] Y8c:=w_p (by kernel_rfl)
def Y8d:S2:=zL [] [] Ztp
def qU:=(by cbv:Y8d=_)
def Zlc:w_P prog 190 3 Y4n [.t 6] [] Y8d:=w_p (by kernel_rfl)
def Y83:S2:=zL [] [] Zt8
def rM:=(by cbv:Y83=_)
def Zmd:w_P prog 233 3 Y5l [.c 6 6 true,.t 7] [] Y83:=w_p (by kernel_rfl)
def Y84:S2:=zL [] [] Zt9
def Zda:=(by cbv:Y84=_)
def Zme:w_P prog 234 1 Y5m [.t 2] [] Y84:=w_p (by kernel_rfl)
def iA:S2:=zL [] [] Yem
def vi:=(by cbv:iA=_)
def Y87:S2:=zL [] [iA] tG
def Zdc:=(show Y87=_ from (λa=>(by cbv:zL [] [a] tG=_)) iA)
def Zmj:w_P prog 239 2 Y5p [.t 4] [] Y87:=w_p (by kernel_rfl)
def Y88:S2:=zL [] [] Zuc
def Zdd:=(by cbv:Y88=_)
def Zmk:w_P prog 240 2 Y5q [.t 4] [] Y88:=w_p (by kernel_rfl)
def Y89:S2:=zL [] [] Zud
def Zde:=(by cbv:Y89=_)
def Zml:w_P prog 241 4 Y5r [.t 8] [] Y89:=w_p (by kernel_rfl)
def Zea:GI prog 94 225 5 181 236 180 117:=⟨⟨_,Zk3,by kernel_rfl⟩,⟨_,Zmg,by kernel_rfl⟩,⟨_,Zk2,by kernel_rfl⟩,⟨_,Zji,by kernel_rfl⟩,by kernel_rfl⟩
def X97:Xd prog 118=true:=by kernel_rfl
def Y07{P:BE}(a:P.p=prog){y:Al}{l:List Ax}(e:l.length<=9223372036854775807){c b:Ob}{K:BQ->AE->Prop}(h:K (.ret (.d (.bool (l.all (VA y))))) [(1,c),(0,b)]):Aa P 117 [.d (.AH 5 (l.map Ax.enc)),.d (.fn 118 [.agg [y.enc]] [])] [(1,c),(0,b)] K:=
 dt a AT Zea e (by rw[a];exact X97) (λ_=>⟨rfl,rfl⟩) (λx f g K h=>Ykn a x h) h
include hP
theorem xD{a b:List B}(t:a.length<=9223372036854775807){l:AE}{K:V->Prop}(h:K (.d (.bool (decide (a=b))))):AW P 154 [.d (Xg a),.d (Xg b)] l K:=by
 have q:=@w_t;refine AK hP AT (ds:=[Xg a,Xg b]) Zaa Zf3 A6.nil ?_;by_cases g:a.length=b.length
 ·simp[Y0r,Xg,g];refine Aw.go (ι:=Nat) (λk=>[(0,.d (.AH 1 (a.map D.AV))),(1,.d (.AH 1 (b.map D.AV))),(12,.d (.int .i64 b.length)),(13,.d (.int .i64 k))]) (λ_=>[]) (λk=>k<=b.length/\a.take k=b.take k) (λk=>b.length-k) 0 ⟨FL _,by simp⟩ (by simp) (by simp) ?_;rintro k ⟨u,i⟩ R o m p v;by_cases f:k<b.length
  ·have c:k<a.length:=by omega
   simp[vz,f,c];refine⟨λe=>p _ _ ?_,λe=>o [] (k+1) _ _ ⟨by omega,?_⟩ (by omega) (by simp[q f (by omega)]) (by simp[AF]) (by simp[AF]) (by simp[AF])⟩
   ·simp;have ne:a≠b:=λh=>by subst h;exact e rfl
    rw[S4 ne]at h;exact h
   ·rw[F0 c,F0 f,i,e]
  ·have:k=b.length:=by omega
   subst this;simp[vz];refine m _ _ _ ?_;simp;have e:a=b:=by rw[<-g,HI,g,HI]at i;exact i
   rw[decide_eq_true e]at h;exact h
 ·have j:¬(a.length:Int)=b.length:=by omega
  have e:a≠b:=λe=>g (by rw[e]);rw[S4 e]at h;simp[Y0r,Xg,g];exact⟨λ_=>h,λh=>(j h).elim⟩
omit hP
def Y9x:Nat:=0x1aaf02084501f1db89b2045040280f580f09c58204a3e11cbb090250914720997e719e0973efb37022b537acb6f3c109c0037360b61b701c0c70af05900542501b3be
def Y9y:Nat:=0x10470650112760730101db0050112045040190f501903808a0034b83291cb0170c70160915500d09ea0ba062218163069013b5333a00f0f500f03808a00300e1b50eb4ea0c70c471e07600c3be
def Y9z:Nat:=0x10002650260058500440040260725047590c90386c20098a44b8be01cb2f70070c72f70060912f7aa80d02f700419e0ba0062f70045d20020912f700108d2f7000b5006a12c00885513720838baf538b13f07938b1521a238badb1b638b16d38b0e85415e1b4d08804a1071cb0c200402b04602a08c27e4aa04c54e05002802001c04223ca450246c24091b7022004021059abb021288
def Y90:Nat:=0x149b96aa7a0444ea072504a6105c0c176f1d201d20811101c04c11101b07911101a8151117e25790160900407a6079016b5974f4b80141cba5b0460110d03df09706e00e817a62831095ad40a74ca0071b7b7305908c07c288
def n7:Nat:=0x10a089f1a70092751e91d200804f181b0c75c0df0cf00685ab0c440b0c0043670039f80a81d200204f18103f39f04f04d03f05d00085a03f39f12003f05d03e3938871d203c9d8ad503b362ad503a16303939f153ad50383939380330a84b80369d8a8e035362a8e03416303339f103a8e03239369002d0a885559f181a4e02f362a4e02e16302d39f145a4e3ea0889829b402a0c702916304002a0ce0230424ca87f006062aaf1a604204e3fd0650bb0a9065bbf00a2653dc2658bd00a55306f49b3661da458
def ir7:S:=zS [(zS [] Y90),(zS [] Y9z),(zS [] Y9y),(zS [] Y9x)] n7
def oN:S2:=zL [] [] Y9x
def Ynq:=(by cbv:oN=_)
def oO:S2:=zL [] [] Y9y
def Ynr:=(by cbv:oO=_)
def oP:S2:=zL [] [] Y9z
def Yns:=(by cbv:oP=_)
def nv:S2:=zL [] [] Y90
def Ynt:=(by cbv:nv=_)
def lt7:S2:=zL [] [nv,oP,oO,oN] n7
def Et7:=(show lt7=_ from (λ(a b c d:S2)=>(by cbv:zL [] [a,b,c,d] n7=_)) nv oP oO oN)
def ok7:w_P prog 7 1 ir7 [.t 2] [] lt7:=w_p (by kernel_rfl)
def Zh0(a b:Int×Int):Int×Int:=(IntKind.i64.wrap (a.1+b.1),if b.2 > a.2 then b.2 else a.2)
def Zy7(a:Int×Int):Int×Int:=(a.1,IntKind.i64.wrap (a.2+1))
mutual
def C0.th:C0->Int×Int
|.mk _ _ k _=>Zy7 ((vI k).foldl Zh0 (1,0))
def vI:List C0->List (Int×Int)
|[]=>[]
|f::r=>f.th::vI r
end
include hP
omit hP
def PM(a:Nat)(t:Az):Bool:=decide (0<=t.lo/\t.lo<=t.hi/\t.hi<=1048576/\-1<=t.unit/\t.unit<a/\t.names.length=0)
def Tt(t:Az):Bool:=decide (t.lo=0/\t.hi=1023/\t.unit=-1/\t.names.length=0)
def Tu(t:Az):Bool:=decide (t.lo=0/\t.hi=4095/\t.unit=-1/\t.names.length=0)
def SA(t:Az):Bool:=decide (t.lo=0/\t.hi=(t.names.length:Int)-1/\t.unit=-1/\1<=t.names.length/\t.names.length<=16)&&decide (t.names.Nodup)
def KQ(a:Nat)(t:Az):Bool:=
 if t.kind=1 then PM a t else if t.kind=2 then Tt t else if t.kind=3 then Tu t else if t.kind=4 then SA t else false
def J2(y:Al)(s f:Int):Option Ak:=if s<0\/f<0 then none else (y.AB[s.toNat]?).bind λc=>c.AL[f.toNat]?
def RT(y:Al)(u:Int):Int:=match y.Ac[u.toNat]? with|some v=>v.BA|none=>0
def UN(y:Al)(a b:Az):Bool:=
 if a.kind≠b.kind then false else if a.kind=4 then decide (a.names=b.names)
 else if a.kind≠1\/a.unit=-1\/b.unit=-1 then decide (a.unit=b.unit) else decide (RT y a.unit=RT y b.unit)
def refOZZ(y:Al)(a:List Gw)(t:A4):Option (Int×Int):=
 if A9 t.name&&A9 t.path&&decide (t.n=0) then
  (match a[(R7 Gw.name a t.name 0).toNat]? with
  |some v=>if R7 Gw.name a t.name 0<0\/R7 Gw.name a t.name 0≠t.var then none else
   (match y.AB[v.Am.toNat]? with
   |some c=>if R7 Ak.name c.AL t.path 0<0\/R7 Ak.name c.AL t.path 0≠t.field then none else some (v.Am,t.field)
   |none=>none)
  |none=>none)
 else none
def A4.zero(t:A4):Bool:=decide (t.name=[])&&decide (t.path=[])&&decide (t.var=0)&&decide (t.field=0)&&decide (t.n=0)
def BH.zero(a:BH):Bool:=decide (a.op=0)&&a.a.zero&&a.b.zero
def Jg{y:Al}{s f:Int}(h:¬∃(i:Nat) (b:i<y.AB.length) (j:Nat),s=i/\f=j/\j<y.AB[i].AL.length):J2 y s f=none:=by
 unfold J2;split
 ·rfl
 ·rename_i g;cases e:y.AB[s.toNat]? with
  |none=>rfl
  |some c=>
   obtain⟨b,d⟩:=HF.1 e;simp only[Dk];rw[dX];rcases QV f.toNat c.AL.length with a|a
   ·exact(h ⟨s.toNat,b,f.toNat,by omega,by omega,by rw[d];exact a⟩).elim
   ·exact a
def XS{y:Al}{i j:Nat}(a:i<y.AB.length)(b:j<y.AB[i].AL.length):J2 y i j=some y.AB[i].AL[j]:=by
 unfold J2;rw[A5 (by omega)];simp[a,b]
def HK(l:List B):List (D×V):=l.map λs=>(.AV s,.d (.bool true))
def Xs7(s:B):∀l:List B,Zo (.AV s) (HK l)=if s∈l then some (.d (.bool true)) else none
|[]=>by simp[HK]
|x::r=>by
 have a:=Xs7 s r;simp only[HK,Dj,Zo,Ds]at a⊢;grind
def yA(s:B)(v:V):∀l:List B,s∉l->E6 (.AV s) v (HK l)=HK l++[(.AV s,v)]
|[],_=>by simp[HK]
|x::r,h=>by
 have b:s≠x:=λe=>h (by simp[e]);have a:s∉r:=λe=>h (by simp[e]);have c:=yA s v r a;simp_all[HK,Dj,E6,Ds,F1,QX,BY,CR]
def Yg1(s:B)(l:List B):Ux (.AV []) (.AV s) (HK l):=by
 refine⟨rfl,λe a=>?_⟩;simp only[HK,E2]at a;obtain⟨x,_,rfl⟩:=a;rfl
def Ym2(p:Nat->Bool)(l:List B):Zp p (HK l)=false:=by
 induction l<;>simp_all[HK,Zp,V.Bg]
def Yg2(l:List B)(x:B):HK (l++[x])=HK l++[(.AV x,.d (.bool true))]:=by simp[HK]
include hP
theorem Yuk(t:Az)(u:Nat){c:AE}{K:V->Prop}(h:K (.d (.bool (PM u t)))):AW P 252 [.d t.enc,.d (.int .i64 u)] c K:=by
 refine AK hP AT (ds:=[t.enc,.int .i64 u]) Zmr.1 Zmr.2 A6.nil ?_;have a:∀b,b=PM u t->K (.d (.bool b)):=λb e=>e▸h;simp[Zdi,Az.enc,Xg];apply a;rw[E3];simp[PM,and_assoc]
theorem Yul(t:Az)(u:Nat){c:AE}{K:V->Prop}(h:K (.d (.bool (Tt t)))):AW P 253 [.d t.enc,.d (.int .i64 u)] c K:=by
 refine AK hP AT (ds:=[t.enc,.int .i64 u]) Zms.1 Zms.2 A6.nil ?_;have a:∀b,b=Tt t->K (.d (.bool b)):=λb e=>e▸h;simp[Zdj,Az.enc,Xg];apply a;rw[E3];simp[Tt,and_assoc]
theorem Yum(t:Az)(u:Nat){c:AE}{K:V->Prop}(h:K (.d (.bool (Tu t)))):AW P 254 [.d t.enc,.d (.int .i64 u)] c K:=by
 refine AK hP AT (ds:=[t.enc,.int .i64 u]) Zmt.1 Zmt.2 A6.nil ?_;have a:∀b,b=Tu t->K (.d (.bool b)):=λb e=>e▸h;simp[Zdk,Az.enc,Xg];apply a;rw[E3];simp[Tu,and_assoc]
theorem Xum{l:List B}(i:l.length<=9223372036854775807){m:AE}{K:V->Prop}(h:K (.d (.bool (decide l.Nodup)))):AW P 256 [.d (Xg l)] m K:=by
 have q:=@w_t;refine AK hP AT (ds:=[Xg l]) Zmv.1 Zmv.2 A6.nil ?_;simp[Zdl,Xg];refine EK l.length (λk=>[(3,.mp 0),(9,.d (.AH 1 (l.map D.AV))),(10,.d (.int .i64 l.length)),(11,.d (.int .i64 k))]) (λk=>[(0,.map (HK (l.take k)))]) (λk=>(l.take k).Nodup) (by simp) (by simp) (by simp[HK]) ?_ ?_
 ·intro k b a R o e f p;simp[vk,b,Yg1,Xs7];by_cases c:l[k]∈l.take k
  ·simp[c];refine f _ _ ?_;have:¬l.Nodup:=λj=>by
    have g:(l.take (k+1)).Nodup:=j.sublist (List.take_sublist _ _);grind[List.take_succ_eq_append_getElem,List.nodup_append]
   simpa[this]using h
  ·simp[c,yA];refine o [] _ _ ?_ (by simp[q b i]) ?_ (by simp ) ?_
   ·grind[List.take_succ_eq_append_getElem,List.nodup_append,List.mem_singleton]
   ·rw[F0 b,Yg2];simp 
   ·simp[Ym2]
 ·intro a R e f p;simp[vk];refine e _ _ _ ?_;simp;rw[HI]at a;simpa[a]using h
theorem Yun(t:Az)(o:t.names.length<=9223372036854775807)(u:Nat){j:AE}{K:V->Prop}(h:K (.d (.bool (SA t)))):AW P 255 [.d t.enc,.d (.int .i64 u)] j K:=by
 refine AK hP AT (ds:=[t.enc,.int .i64 u]) Zmu.1 Zmu.2 A6.nil ?_;have m:IntKind.i64.wrap ((t.names.length:Int)-1)=(t.names.length:Int)-1:=w_i _ (by omega);have c:∀{j:AE}{K:V->Prop},K (.d (.bool (decide t.names.Nodup)))->AW P 256 [.d (.AH 1 (t.names.map .AV))] j K:=λh=>Xum hP o h;by_cases l:t.lo=0/\t.hi=(t.names.length:Int)-1/\t.unit=-1/\1<=t.names.length/\t.names.length<=16
 ·obtain⟨b,e,f,k,p⟩:=l;have i:(1:Int)<=t.names.length:=by omega
  have a:(t.names.length:Int)<=16:=by omega
  simp[RN,Az.enc,Xg,b,e,f,i,a,m];simp_all[SA,and_self,decide_true,Fc]
 ·have n:SA t=false:=by simp only[SA,l,decide_false,Bool.false_and]
  rw[n]at h;by_cases b:t.lo=0
  ·by_cases e:t.hi=(t.names.length:Int)-1
   ·by_cases f:t.unit=-1
    ·by_cases k:1<=t.names.length
     ·have a:¬(t.names.length:Int)<=16:=by omega
      simp[RN,Az.enc,Xg,a];exact h
     ·have g:t.names=[]:=by simpa using k
      simp[RN,Az.enc,Xg,g];exact h
    ·simp[RN,Az.enc,Xg,f];exact h
   ·simp[RN,Az.enc,Xg,e,m];exact h
  ·simp[RN,Az.enc,Xg,b];exact h
def Tv:D:=.agg [.B3,.fn 252 [] [],.fn 253 [] [],.fn 254 [] [],.fn 255 [] []]
theorem ZR{a:AE}{K:V->Prop}(h:K (.d Tv)):AW P 238 [] a K:=by
 refine AK hP AT (ds:=[]) Zmi.1 Zmi.2 A6.nil ?_;simp[Zdb];exact h
theorem xF{y:Al}(t:Az)(s:t.names.length<=9223372036854775807){a:AE}{K:V->Prop}(h:K (.d (.bool (KQ y.Ac.length t)))):AW P 184 [.d (.agg [y.enc]),.d t.enc] a K:=by
 have n:Xd P.p 252=true:=by rw[hP];kernel_rfl
 have o:Xd P.p 253=true:=by rw[hP];kernel_rfl
 have q:Xd P.p 254=true:=by rw[hP];kernel_rfl
 have r:Xd P.p 255=true:=by rw[hP];kernel_rfl
 have j:∀{a:AE}{K:V->Prop},K (.d (.bool (PM y.Ac.length t)))->AW P 252 [.d (.agg [iD t.kind,iD t.lo,iD t.hi,.AV t.Bo,iD t.unit,.AH 1 (t.names.map .AV)]),.d (.int .i64 y.Ac.length)] a K:=λh=>Yuk hP t _ h;have k:∀{a:AE}{K:V->Prop},K (.d (.bool (Tt t)))->AW P 253 [.d (.agg [iD t.kind,iD t.lo,iD t.hi,.AV t.Bo,iD t.unit,.AH 1 (t.names.map .AV)]),.d (.int .i64 y.Ac.length)] a K:=λh=>Yul hP t _ h;have l:∀{a:AE}{K:V->Prop},K (.d (.bool (Tu t)))->AW P 254 [.d (.agg [iD t.kind,iD t.lo,iD t.hi,.AV t.Bo,iD t.unit,.AH 1 (t.names.map .AV)]),.d (.int .i64 y.Ac.length)] a K:=λh=>Yum hP t _ h;have m:∀{a:AE}{K:V->Prop},K (.d (.bool (SA t)))->AW P 255 [.d (.agg [iD t.kind,iD t.lo,iD t.hi,.AV t.Bo,iD t.unit,.AH 1 (t.names.map .AV)]),.d (.int .i64 y.Ac.length)] a K:=λh=>Yun hP t s _ h;refine AK hP AT (ds:=[.agg [y.enc],t.enc]) Zk6.1 Zk6.2 A6.nil ?_;unfold KQ at h;by_cases c:t.kind=1
 ·rw[Bv c]at h;simp only[c]at j;simp[RI,Al.enc,Az.enc,Xg,c];refine ZR hP ?_;simp[Tv,n];refine⟨⟨rfl,rfl,rfl,rfl,rfl⟩,AW.Cc (j ?_)⟩;simpa using h
 rw[A5 c]at h;by_cases e:t.kind=2
 ·rw[Bv e]at h;simp only[e]at k;simp[RI,Al.enc,Az.enc,Xg,e];refine ZR hP ?_;simp[Tv,o];refine⟨⟨rfl,rfl,rfl,rfl,rfl⟩,AW.Cc (k ?_)⟩;simpa using h
 rw[A5 e]at h;by_cases f:t.kind=3
 ·rw[Bv f]at h;simp only[f]at l;simp[RI,Al.enc,Az.enc,Xg,f];refine ZR hP ?_;simp[Tv,q];refine⟨⟨rfl,rfl,rfl,rfl,rfl⟩,AW.Cc (l ?_)⟩;simpa using h
 rw[A5 f]at h;by_cases g:t.kind=4
 ·rw[Bv g]at h;simp only[g]at m;simp[RI,Al.enc,Az.enc,Xg,g];refine ZR hP ?_;simp[Tv,r];refine⟨⟨rfl,rfl,rfl,rfl,rfl⟩,AW.Cc (m ?_)⟩;simpa using h
 rw[A5 g]at h;have b:t.kind<1\/4<t.kind:=by omega
 rcases b with b|b
 ·simp[RI,Al.enc,Az.enc,Xg,b];exact h
 ·have i:¬t.kind<1:=by omega
  simp[RI,Al.enc,Az.enc,Xg,b,i];exact h
theorem Xqw{y:Al}(a b:Az)(z:a.names.length<=9223372036854775807)(F:KQ y.Ac.length a=true)(G:KQ y.Ac.length b=true){s:AE}{K:V->Prop}(h:K (.d (.bool (UN y a b)))):
 AW P 235 [.d (.agg [y.enc]),.d a.enc,.d b.enc] s K:=by
 refine AK hP AT (ds:=[.agg [y.enc],a.enc,b.enc]) Zmf.1 Zmf.2 A6.nil ?_;have c:∀{s:AE}{K:V->Prop},K (.d (.bool (decide (a.names=b.names))))->AW P 154 [.d (.AH 1 (a.names.map .AV)),.d (.AH 1 (b.names.map .AV))] s K:=λh=>xD hP z h;unfold UN at h;by_cases n:a.kind=b.kind
 ·rw[A5 (by simp[n])]at h;by_cases p:a.kind=4
  ·rw[Bv p]at h;have i:b.kind=4:=by omega
   simp[RM,Al.enc,Az.enc,Xg,p,i];refine c ?_;simpa using h
  ·rw[A5 p]at h;have i:¬b.kind=4:=by omega
   by_cases o:a.kind=1
   ·have g:b.kind=1:=by omega
    by_cases q:a.unit=-1
    ·rw[Bv (.inr (.inl q))]at h;have t:∀f,f=decide (a.unit=b.unit)->K (.d (.bool f)):=λf e=>e▸h;simp[RM,Az.enc,o,g,q];grind
    ·by_cases r:b.unit=-1
     ·rw[Bv (.inr (.inr r))]at h;have t:∀f,f=decide (a.unit=b.unit)->K (.d (.bool f)):=λf e=>e▸h;simp[RM,Az.enc,o,g,r];grind
     ·rw[A5 (by omega)]at h;have H:0<=a.unit/\a.unit<y.Ac.length:=by
       simp_all[KQ,CP,PM,D2]<;>omega
      have J:0<=b.unit/\b.unit<y.Ac.length:=by
       simp_all[KQ,CP,PM,D2]<;>omega
      obtain⟨u,j⟩:∃u:Nat,a.unit=u:=⟨a.unit.toNat,by omega⟩
      obtain⟨v,l⟩:∃u:Nat,b.unit=u:=⟨b.unit.toNat,by omega⟩
      have k:u<y.Ac.length:=by omega
      have m:v<y.Ac.length:=by omega
      have w:RT y a.unit=y.Ac[u].BA:=by simp[RT,j,k]
      have x:RT y b.unit=y.Ac[v].BA:=by simp[RT,l,m]
      rw[w,x]at h;simp[RM,Al.enc,Az.enc,Ax.enc,Xg,o,g,q,r,j,l,k,m]
      first|exact h|skip
   ·rw[Bv (.inl o)]at h;have g:¬b.kind=1:=by omega
    have t:∀f,f=decide (a.unit=b.unit)->K (.d (.bool f)):=λf e=>e▸h;simp[RM,Az.enc,n,i,g];omega
 ·rw[Bv (by simpa using n)]at h;simp[RM,Az.enc,Xg,n];exact h
omit hP
def Qg(y:Al)(p:AZ):Bool:=(p.CC.all λr=>(J2 y r.Am r.field).isSome)&&decide (0<=p.most)&&decide (p.most<=64)
def wB(w:Int):Bool:=decide (0<=w)&&decide (w<=9)
theorem Zng{w:Int}(a:0<=w)(b:w<=9):wB w=true:=by simp_all[wB,decide_eq_true]
def Ks(y:Al)(f:Ak):Bool:=KQ y.Ac.length f.type&&wB f.w0&&wB f.w1&&wB f.w2&&wB f.w3
def Yz(y:Al)(s:AM):Bool:=
 decide (0<=s.CN)&&decide (s.CN<y.AR.length)&&decide (1<=s.BL)&&decide (s.BL<=255)&&decide (1<=s.AL.length)&&decide (s.AL.length<=12)&&
 (match s.AL[0]? with|none=>false|some f=>decide (f.type.kind=3))&&s.AL.all (Ks y)
def Vg{a:Type}{p:a->Bool}{l:List a}{k:Nat}(b:k<l.length):(l.take (k+1)).all p=((l.take k).all p&&p l[k]):=by
 grind[List.take_succ_eq_append_getElem]
include hP
theorem Xuq{y:Al}{p:AZ}(J:p.CC.length<=9223372036854775807){x:AE}{K:V->Prop}(h:K (.d (.bool (Qg y p)))):AW P 123 [.d (.agg [y.enc]),.d p.enc] x K:=by
 refine AK hP AT (ds:=[.agg [y.enc],p.enc]) Zjo.1 Zjo.2 A6.nil ?_;have H:y.enc.sz=6:=rfl;simp[Zb3,AZ.enc];refine EK p.CC.length (λk=>[(2,.ptr 0 []),(3,.ptr 1 []),(10,.d (.AH 4 (p.CC.map CA.enc))),(11,.d (.int .i64 p.CC.length)),(12,.d (.int .i64 k))])
  (λ_=>[(1,.box 83 (.d (.agg [.AV p.name,.AH 4 (p.CC.map CA.enc),iD p.most]))),(0,.box 220 (.d (.agg [y.enc])))]) (λk=>(p.CC.take k).all (λr=>(J2 y r.Am r.field).isSome)=true) (by simp) (by simp) (by simp) ?_ ?_
 ·intro k l b R z m n F;have G:=w_s k (by omega);have a:=Vg (p:=λr:CA=>(J2 y r.Am r.field).isSome) l;rw[b,Fc]at a;simp[vm,l,CA.enc];refine⟨by rfl,YD hP (λv=>?_) (λi q j u w o=>?_)⟩
  ·have g:=Jg (y:=y) (s:=p.CC[k].Am) (f:=p.CC[k].field) v;have e:Qg y p=false:=by
    unfold Qg;grind
   rw[e]at h;simp[M6];refine n _ _ ?_;exact h
  ·have g:=XS q u;rw[w,o,g]at a;have c:∀t:Az,t.enc.shape=.node [.leaf,.leaf,.leaf,.leaf,.leaf,.leaf]:=λt=>rfl;simp[c,G];refine z [] _ _ a (by simp) (by simp[AF]) (by simp ) (by simp )
 ·intro b R m n F;simp[vm];refine m _ _ _ ?_;rw[HI]at b;have e:Qg y p=(decide (0<=p.most)&&decide (p.most<=64)):=by unfold Qg;rw[b,Fc]
  rw[e]at h;simp;exact h
theorem X44{y:Al}{x:AM}(hx:x.BJ){ob:AE}{K:V->Prop}(h:K (.d (.bool (Yz y x)))):AW P 120 [.d (.agg [y.enc]),.d x.enc] ob K:=by
 refine AK hP AT (ds:=[.agg [y.enc],x.enc]) Zjl.1 Zjl.2 A6.nil ?_;have G:y.enc.sz=6:=rfl;have m:y.enc=.agg [Xg y.AR,.AH 5 (y.Ac.map Ax.enc),.AH 6 (y.AB.map AM.enc),.AH 5 (y.AP.map Ap.enc),.AH 5 (y.AJ.map Ai.enc),.AH 3 (y.AI.map AZ.enc)]:=rfl;have aa:Yz y x=false->K (.d (.bool false)):=λe=>by rw[e]at h;exact h
 obtain⟨nm,U,i,l,a,g⟩:=x;have t:=hx.AL;have c:=hx.names;dsimp only at t c;by_cases J:i<0
 ·simp[OB,AM.enc,J];grind[Yz]
 by_cases L:(y.AR.length:Int)<=i
 ·simp[OB,AM.enc,m,Xg,L];grind[Yz]
 by_cases N:l<1
 ·simp[OB,AM.enc,m,Xg,N];grind[Yz]
 by_cases O:255<l
 ·simp[OB,AM.enc,m,Xg,O];grind[Yz]
 by_cases Q:(a.length:Int)<1
 ·simp[OB,AM.enc,m,Xg,Q];grind[Yz]
 by_cases T:(12:Int)<a.length
 ·simp[OB,AM.enc,m,Xg,T];grind[Yz]
 have r:0<a.length:=by omega
 have fe:∀f:Ak,f.enc=.agg [.AV f.name,.agg [iD f.type.kind,iD f.type.lo,iD f.type.hi,.AV f.type.Bo,iD f.type.unit,Xg f.type.names],.agg [iD f.w0,iD f.w1,iD f.w2,iD f.w3]]:=λ_=>rfl;have s:=fe a[0];by_cases Z:a[0].type.kind=3
 ·simp[OB,AM.enc,G,m,Xg,J,L,N,O,Q,T,s,r,Z];have v:∀b,Yz y ⟨nm,U,i,l,a,g⟩=b->a.all (Ks y)=b:=by
   grind[Yz]
  rw[<-v _ rfl]at h;have wr:=@w_t;refine EK a.length (λk=>[(2,.ptr 0 []),(53,.d (.AH 11 (a.map Ak.enc))),(54,.d (.int .i64 a.length)),(55,.d (.int .i64 k))])
   (λ_=>[(1,.box 72 (.d (.agg [.AV nm,.AV U,iD i,iD l,.AH 11 (a.map Ak.enc),.AH 4 (g.map Av.enc)]))),(0,.box 220 (.d (.agg [y.enc])))]) (λk=>(a.take k).all (Ks y)=true) (by simp) (by simp) (by simp[m,Xg]) ?_ ?_
  ·intro k H hI R rn re rr rp;have q:=Vg (p:=Ks y) H;rw[hI,Fc]at q;have hf:Ks y a[k]=false->K (.d (.bool false)):=by
    grind
   have u:=c _ (DS H);have fk:=fe a[k];simp[vU,H,fk,Xg];generalize a[k]=f at q hf u;refine⟨by rfl,xF hP f.type u ?_⟩;cases ht:KQ y.Ac.length f.type with
   |false=>
    simp;simp_all[Ks]
   |true=>
    simp;have W:Ks y f=(wB f.w0&&wB f.w1&&wB f.w2&&wB f.w3):=by simp[Ks,ht]
    refine EK 4 (λj=>[(2,.ptr 0 []),(53,.d (.AH 11 (a.map Ak.enc))),(54,.d (.int .i64 a.length)),(55,.d (.int .i64 k)),(65,.d (.agg [iD f.w0,iD f.w1,iD f.w2,iD f.w3])),(66,.d (.int .i64 j))])
     (λ_=>[(2,.box 158 (.d (.agg [.AV f.name,.agg [iD f.type.kind,iD f.type.lo,iD f.type.hi,.AV f.type.Bo,iD f.type.unit,.AH 1 (f.type.names.map .AV)],.agg [iD f.w0,iD f.w1,iD f.w2,iD f.w3]]))),(1,.box 72 (.d (.agg [.AV nm,.AV U,iD i,iD l,.AH 11 (a.map Ak.enc),.AH 4 (g.map Av.enc)]))),(0,.box 220 (.d (.agg [y.enc])))])
     (λj=>([f.w0,f.w1,f.w2,f.w3].take j).all wB=true) (by simp) (by simp) (by simp) ?_ ?_
    ·intro j hj hJ R' X z F Y;have o:j=0\/j=1\/j=2\/j=3:=by omega
     have bw:∀{w:Int},wB w=false->w∈[f.w0,f.w1,f.w2,f.w3]->Ks y f=false:=by
      intro w e hw;rw[W];simp at hw;grind
     have w1:IntKind.i64.wrap 1=1:=rfl;have w2:IntKind.i64.wrap 2=2:=rfl;have w3:IntKind.i64.wrap 3=3:=rfl;have w4:IntKind.i64.wrap 4=4:=rfl;rcases o with rfl|rfl|rfl|rfl
     all_goals
      simp[vT];refine⟨⟨rfl,rfl,rfl,rfl⟩,λhw=>?_,λh1 h2=>?_⟩
      ·refine F _ _ ?_;simp;refine rr _ _ ?_;simp;grind[wB]
      ·refine X [] _ _ ?_ (by simp[w1,w2,w3,w4]) (by simp[AF]) (by simp[AF]) (by simp[AF]);grind[Zng]
    ·intro hJ R' z F Y;simp[vT];refine z _ _ _ ?_;simp[wr H t];have hb:Ks y f=true:=by
      simp_all
     refine rn [] _ _ (by rw[q,hb]) (by simp) (by simp[AF]) (by simp[AF]) (by simp[AF])
  ·intro hI R re rr rp;simp[vU];simp_all
 ·simp[OB,AM.enc,G,m,Xg,J,L,N,O,Q,T,s,r,Z];simp_all[Yz]
omit hP
def Pv(t:A4):Bool:=decide (t.var=-1)&&decide (0<=t.n)&&decide (t.n<=1048576)
def Hr(y:Al)(r:Ap)(n:Int)(t:A4):Option Az:=
 if t.var<0\/n<=t.var then none else (r.Ad[t.var.toNat]?).bind λf=>(J2 y f.Am t.field).map Ak.type
def EM(y:Al)(r:Ap):D:=.agg [.agg [y.enc],r.enc]
def Mx(y:Al)(r:Ap)(i:Nat)(f:At):Bool:=
 decide (0<=f.Am)&&decide (f.Am<y.AB.length)&&(decide (f.Bo.var=-1)||(match Hr y r i f.Bo with|some t=>decide (t.kind=3)|none=>false))
def Ut(y:Al)(r:Ap):Nat->List At->Bool
|_,[]=>true
|k,f::l=>Mx y r k f&&Ut y r (k+1) l
def N6(y:Al)(r:Ap):Bool:=decide (1<=r.Ad.length)&&decide (r.Ad.length<=3)&&Ut y r 0 r.Ad
include hP
theorem zY{t:A4}{c:AE}{K:V->Prop}(h:K (.d (.bool (Pv t)))):AW P 234 [.d t.enc] c K:=by
 refine AK hP AT (ds:=[t.enc]) Zme.1 Zme.2 A6.nil ?_;have a:∀b,b=Pv t->K (.d (.bool b)):=λb e=>e▸h;simp[Zda,A4.enc];apply a;simp[Pv]
theorem eR{y:Al}{r:Ap}{n:Int}(Q:n<=r.Ad.length){t:A4}{G:AE}{K:V->Prop}
 (b:Hr y r n t=none->K (.BU [.d M6,.d (.bool false)])) (N:∀x,Hr y r n t=some x->(∃i,∃k:i<y.AB.length,∃j,∃l:j<y.AB[i].AL.length,x=y.AB[i].AL[j].type)->K (.BU [.d x.enc,.d (.bool true)])):
 AW P 233 [.d (EM y r),.d t.enc,.d (.int .i64 n)] G K:=by
 refine AK hP AT (ds:=[EM y r,t.enc,.int .i64 n]) Zmd.1 Zmd.2 A6.nil ?_;have J:y.enc.sz=6:=rfl;by_cases g:t.var<0
 ·simp[rM,A4.enc,g];exact b (by simp[Hr,g])
 by_cases h:n<=t.var
 ·simp[rM,A4.enc,h];exact b (by simp[Hr,h])
 obtain⟨v,F⟩:∃v:Nat,t.var=v:=⟨t.var.toNat,by omega⟩
 have e:v<r.Ad.length:=by omega
 have u:Hr y r n t=(J2 y r.Ad[v].Am t.field).map Ak.type:=by
  simp_all[Hr,A5,Int.toNat_natCast,EW]
 have q:∀f:At,f.enc=.agg [.AV f.name,.AV f.kind,iD f.Am,f.Bo.enc]:=λ_=>rfl;have s:=q r.Ad[v];have L:(v:Int)<n:=by omega
 have m:¬n<=(v:Int):=by omega
 have o:¬(v:Int)<0:=by omega
 simp[rM,A4.enc,EM,Ap.enc,F,e,s,m,o];refine⟨by rfl,YD hP (λc=>?_) (λi k j l z w=>?_)⟩
 ·simp[M6];exact b (by rw[u,Jg c];rfl)
 ·have p:=XS k l;rw[<-z,<-w]at p;have O:(match V.d y.AB[i].AL[j].type.enc with|V.d (D.agg H)=>true|V.agg H=>true|x=>false)=true:=rfl;have a:∀t:Az,t.enc.shape=.node [.leaf,.leaf,.leaf,.leaf,.leaf,.leaf]:=λt=>rfl;simp[a];grind
theorem X9w{y:Al}{r:Ap}{L:AE}{K:V->Prop}(h:K (.d (.bool (N6 y r)))):AW P 175 [.d (EM y r)] L K:=by
 refine AK hP AT (ds:=[EM y r]) Zkx.1 Zkx.2 A6.nil ?_;have j:y.enc.sz=6:=rfl;have g:y.enc.shape.size=6:=by rfl
 have i:y.enc=.agg [Xg y.AR,.AH 5 (y.Ac.map Ax.enc),.AH 6 (y.AB.map AM.enc),.AH 5 (y.AP.map Ap.enc),.AH 5 (y.AJ.map Ai.enc),.AH 3 (y.AI.map AZ.enc)]:=rfl;have a:N6 y r=false->K (.d (.bool false)):=λe=>by rw[e]at h;exact h
 by_cases l:(r.Ad.length:Int)<1
 ·simp[rG,EM,Ap.enc,g,l];grind[N6]
 by_cases m:(3:Int)<r.Ad.length
 ·simp[rG,EM,Ap.enc,g,m];grind[N6]
 have H:N6 y r=Ut y r 0 r.Ad:=by
  grind[N6]
 rw[H]at h a;simp[rG,EM,Ap.enc,g,l,m];refine EK r.Ad.length (λk=>[(1,.ptr 0 []),(21,.d (.AH 8 (r.Ad.map At.enc))),(22,.d (.int .i64 r.Ad.length)),(23,.d (.int .i64 k))])
  (λ_=>[(0,.box 222 (.d (EM y r)))]) (λk=>Ut y r 0 r.Ad=Ut y r k (r.Ad.drop k)) (by simp) (by simp) (by simp[EM,Ap.enc]) ?_ ?_
 ·intro k q p R u N c O;have v:=w_s k (by omega);have b:Ut y r 0 r.Ad=(Mx y r k r.Ad[k]&&Ut y r (k+1) (r.Ad.drop (k+1))):=by rw[p,EV q,Ut]
  have F:∀f:At,f.enc=.agg [.AV f.name,.AV f.kind,iD f.Am,f.Bo.enc]:=λ_=>rfl;have Q:∀t:A4,t.enc=.agg [.AV t.name,.AV t.path,iD t.var,iD t.field,iD t.n]:=λ_=>rfl;have G:=F r.Ad[k];have z:Mx y r k r.Ad[k]=false->K (.d (.bool false)):=λe=>a (by rw[b,e];rfl);simp[v8,q,G,Q,EM,Ap.enc,j,g,i,Xg];generalize r.Ad[k]=f at b z;have s:Mx y r k f=true->Ut y r 0 r.Ad=Ut y r (k+1) (r.Ad.drop (k+1)):=λe=>by simp_all
  refine⟨λW=>?_,λT U=>⟨λJ=>?_,λJ=>?_⟩⟩
  ·refine c _ _ ?_;simp;grind[Mx]
  ·refine u [] _ _ (s (by simp_all[Mx])) (by simp[v]) (by simp[EM,Ap.enc,i,Xg]) (by simp ) (by simp )
  ·refine eR (y:=y) (r:=r) hP (n:=k) (by omega) (t:=f.Bo) (λe=>?_) (λx e _=>?_)
   ·simp[M6];refine c _ _ ?_;simp_all[Mx]
   ·have w:x.enc=.agg [iD x.kind,iD x.lo,iD x.hi,.AV x.Bo,iD x.unit,Xg x.names]:=rfl;by_cases o:x.kind=3
    ·simp[w,o,Xg,v];refine u [] _ _ (s (by simp_all[Mx])) (by simp) (by simp[AF,EM,Ap.enc,i,Xg]) (by simp ) (by simp )
    ·simp[w,o,Xg];refine c _ _ ?_;simp_all[Mx]
 ·intro p R N c O;simp[v8];simp_all[GN,Ut]
omit hP
def Oa(x z:Az):Bool:=decide (z.kind=x.kind)&&decide (z.unit=x.unit)&&decide (z.names=x.names)&&decide (x.lo<=z.lo)&&decide (z.lo<=x.hi)&&decide (x.lo<=z.hi)&&decide (z.hi<=x.hi)
def Lm(y:Al)(r:Ap)(x:Az)(t:A4):Bool:=
 if Pv t then decide (x.lo<=t.n)&&decide (t.n<=x.hi) else (match Hr y r r.Ad.length t with|some z=>Oa x z|none=>false)
def HL(l:List Int):List (D×V):=l.map λs=>(iD s,.d (.bool true))
def Xlz(s:Int):∀l:List Int,Zo (iD s) (HL l)=if s∈l then some (.d (.bool true)) else none
|[]=>by simp[HL,Zo]
|x::r=>by
 have a:=Xlz s r;simp only[HL,Dj,Zo,Ds]at a⊢;by_cases e:s=x
 ·simp[e]
 ·simp only[QX.2 e,BY,CR,a,Fb,e,false_or]
def Xs6(s:Int)(v:V):∀l:List Int,s∉l->E6 (iD s) v (HL l)=HL l++[(iD s,v)]
|[],_=>by simp[HL,E6]
|x::r,h=>by
 have b:s≠x:=λe=>h (by simp[e]);have c:s∉r:=λe=>h (by simp[e]);have a:=Xs6 s v r c;simp only[HL,Dj,E6,Ds,F1]at a⊢;simp only[QX.2 b,BY,CR,a]
def X6n(s:Int)(l:List Int):Ux (iD 0) (iD s) (HL l):=by
 refine⟨rfl,λe a=>?_⟩;simp only[HL,E2]at a;obtain⟨x,_,rfl⟩:=a;rfl
def Yg0(p:Nat->Bool)(l:List Int):Zp p (HL l)=false:=by
 induction l with
 |nil=>rfl
 |cons x r a=>simpa[HL,Zp,V.Bg]using a
def X6o(l:List Int)(x:Int):HL (l++[x])=HL l++[(iD x,.d (.bool true))]:=by simp[HL]
include hP
theorem Yuh{l:List Int}(t:l.length<=9223372036854775807){v:AE}{K:V->Prop}(h:K (.d (.bool (decide l.Nodup)))):AW P 179 [.d (X4 l)] v K:=by
 have y:=@w_t;refine AK hP AT (ds:=[X4 l]) Zk1.1 Zk1.2 A6.nil ?_;simp[Zcs,X4];refine EK l.length (λk=>[(3,.mp 0),(9,.d (.AH 1 (l.map iD))),(10,.d (.int .i64 l.length)),(11,.d (.int .i64 k))]) (λk=>[(0,.map (HL (l.take k)))]) (λk=>(l.take k).Nodup) (by simp) (by simp) (by simp[HL]) ?_ ?_
 ·intro k c g R w m o x;have p:=Xlz l[k] (l.take k);have q:=X6n l[k] (l.take k);simp[wE,c,p,q];by_cases f:l[k]∈l.take k
  ·simp[f];refine o _ _ ?_;have:¬l.Nodup:=λu=>by
    have i:(l.take (k+1)).Nodup:=u.sublist (List.take_sublist _ _);rw[F0 c,Io]at i;exact i.2.2 _ f _ (by simp) rfl
   simpa[this]using h
  ·have r:=Xs6 l[k] (.d (.bool true)) (l.take k) f;simp[f,r];refine w [] _ _ ?_ (by simp[y c t]) ?_ (by simp[AF]) ?_
   ·rw[F0 c,Io];refine⟨g,by simp,?_⟩;intro a s b j;simp only[O6]at j;subst j;exact λe=>f (e▸s)
   ·rw[F0 c,X6o];simp[AF]
   ·simp[AN,Yg0]
 ·intro g R m o x;simp[wE];refine m _ _ _ ?_;simp;rw[HI]at g;simpa[g]using h
theorem Yuv{y:Al}{r:Ap}(L:r.Ad.length<=9223372036854775807)(F:y.BJ){x:Az}{t:A4}{H:AE}{K:V->Prop}(h:K (.d (.bool (Lm y r x t)))):AW P 178 [.d (EM y r),.d x.enc,.d t.enc] H K:=by
 refine AK hP AT (ds:=[EM y r,x.enc,t.enc]) Zk0.1 Zk0.2 A6.nil ?_;have f:y.enc.sz=6:=rfl;have s:y.enc.shape.size=6:=by rw[D4];rfl
 have J:t.enc=.agg [.AV t.name,.AV t.path,iD t.var,iD t.field,iD t.n]:=rfl;have k:∀x:Az,x.enc=.agg [iD x.kind,iD x.lo,iD x.hi,.AV x.Bo,iD x.unit,Xg x.names]:=λ_=>rfl;simp[Zcr,EM,Ap.enc,J,k,f,s];refine zY hP (t:=t) ?_;cases p:Pv t with
 |true=>
  simp;have e:Lm y r x t=(decide (x.lo<=t.n)&&decide (t.n<=x.hi)):=by unfold Lm;rw[p];rfl
  rw[e]at h;exact h
 |false=>
  simp[f,s];refine eR (y:=y) (r:=r) hP (n:=r.Ad.length) (by omega) (t:=t) (λe=>?_) (λz e G=>?_)
  ·have l:Lm y r x t=false:=by unfold Lm;rw[p,e];rfl
   rw[l]at h;simp[M6];exact h
  ·have l:Lm y r x t=Oa x z:=by unfold Lm;rw[p,e];rfl
   rw[l]at h;have q:z.names.length<=9223372036854775807:=by
    obtain⟨i,v,j,w,rfl⟩:=G;exact(F.Am _ (DS v)).names _ (DS w)
   by_cases c:z.kind=x.kind
   rotate_left
   ·have m:Oa x z=false:=by simp[Oa,c]
    rw[m]at h;simp[k,Xg,c];exact h
   by_cases g:z.unit=x.unit
   rotate_left
   ·have m:Oa x z=false:=by simp[Oa,g]
    rw[m]at h;have o:(z.unit==x.unit)=false:=by simpa using g
    simp[k,Xg,c,o];exact h
   simp[k,Xg,c,g];refine xD hP (a:=z.names) (b:=x.names) q ?_;have u:∀b,b=Oa x z->K (.d (.bool b)):=λb e=>e▸h;simp;apply u;rw[E3];simp[Oa,c,g]
omit hP
def DA(l:List B)(n:B):Option Nat:=l.findIdx? (λx=>decide (x=n))
def Yme(l:List B)(x n:B):DA (l++[x]) n=(DA l n).or (if x=n then some l.length else none):=by
 simp[DA,List.findIdx?_append]
theorem Rn{l:List B}{n:B}:DA l n=none↔n∉l:=by
 grind[DA,List.findIdx?_eq_none_iff]
def SC{l:List B}{n:B}{i:Nat}(h:DA l n=some i):i<l.length:=by
 grind[DA,List.findIdx?_eq_some_iff_getElem]
def Z6(l:List B):Nat->List (D×V)
|0=>[]
|k+1=>match l[k]? with
 |none=>Z6 l k
 |some n=>if n∈l.take k then Z6 l k else Z6 l k++[(.AV n,.d (.int .i64 k))]
def eW(k j:D)(v:V):∀l:List (D×V),Zo k (l++[(j,v)])=(Zo k l).or (if Ds k j then some v else none)
|[]=>by simp 
|(a,b)::r=>by
 have c:=eW k j v r;grind[Zo]
def U4(k:D)(v:V):∀l:List (D×V),Zo k l=none->E6 k v l=l++[(k,v)]
|[],_=>by simp 
|(a,b)::r,h=>by
 simp at h;split at h
 ·cases h
 next e=>simp only[E6,e,BY,CR,F1,U4 k v r h]
def TH(l:List B)(n:B):∀k,k<=l.length->Zo (.AV n) (Z6 l k)=(DA (l.take k) n).map λi=>V.d (.int .i64 i)
|0,_=>by simp[Z6,DA]
|k+1,f=>by
 have c:=TH l n k (by omega);have a:k<l.length:=f;rw[Z6,EW a,F0 a,Yme];simp only;by_cases b:l[k]∈l.take k
 ·rw[Bv b,c];by_cases e:l[k]=n
  ·have:DA (l.take k) n≠none:=λh=>Rn.1 h (e▸b);cases h:DA (l.take k) n<;>simp_all
  ·simp[e]
 ·rw[A5 b,eW,c];grind[DA,Ds]
def TI(l:List B)(n:B):∀k,Ux (.AV []) (.AV n) (Z6 l k)
|0=>⟨rfl,λe a=>by cases a⟩
|k+1=>by
 have b:=TI l n k;rw[Z6];split
 ·exact b
 ·split
  ·exact b
  ·refine⟨b.1,λe a=>?_⟩;rw[FM]at a;rcases a with a|a
   ·exact b.2 e a
   simp_all
def Xlo(p:Nat->Bool)(k:D)(v:V):∀l:List (D×V),Zp p (l++[(k,v)])=(Zp p l||V.Bg p v)
|[]=>by simp[Zp]
|(a,b)::r=>by simp[Zp,Xlo p k v r,Bool.or_assoc]
def Z0(p:Nat->Bool)(l:List B):∀k,Zp p (Z6 l k)=false
|0=>rfl
|k+1=>by
 have a:=Z0 p l k;rw[Z6];split
 ·exact a
 split<;>simp_all[Xlo]
def Dn{a:Type}(f:List a->a->Option a):List a->List a->Option (List a)
|pre,[]=>some pre
|pre,x::r=>(f pre x).bind λy=>Dn f (pre++[y]) r
def EL{a:Type}(l:List a)(f:a->Option a):Option (List a):=Dn (λ_=>f) [] l
def L5(a:List B)(b:List Ax)(u:Ax):Option Ax:=
 if u.Bo=[] then some {u with BA:=b.length,Bq:=1}
 else (DA a u.Bo).bind λ(n:Nat)=>(b[n]?).map λv=>{u with BA:=v.BA,Bq:=if 2<=u.Bf/\u.Bf<=1000/\u.Bf*v.Bq<=1099511627776 then u.Bf*v.Bq else 0}
def Qw(a:List B)(f:Ak):Option Ak:=
 if f.type.kind=1/\f.type.Bo≠[] then (DA a f.type.Bo).map λ(n:Nat)=>{f with type:={f.type with unit:=n} }
 else some {f with type:={f.type with unit:=-1} }
def Nz(a:List B):List Nat->List B->Option (List Nat)
|pre,[]=>some pre
|pre,x::r=>(DA a x).bind λn=>Nz a (pre++[n]) r
def JW(a:List B)(d:Av):Option Av:=
 (Nz a [] d.names).bind λl=>(DA a d.name).map λ(n:Nat)=>{d with Aq:=l.map Int.ofNat,B1:=n}
def Va(a b:List B)(s:AM):Option AM:=
 (DA a s.Dy).bind λ(i:Nat)=>(EL s.AL (Qw b)).bind λd=>(EL s.AU (JW (s.AL.map Ak.name))).map λc=>{s with CN:=i,AL:=d,AU:=c}
def Y2(a:List AM)(s:Int):List B:=(match a[s.toNat]? with|some x=>x.AL|none=>[]).map Ak.name
def Gz(b:List AM)(a:List At)(t:A4):Option A4:=
 if t.name=[] then some {t with var:=-1,field:=0}
 else (DA (a.map At.name) t.name).bind λ(v:Nat)=>(a[v]?).bind λx=>(DA (Y2 b x.Am) t.path).map λ(f:Nat)=>{t with var:=v,field:=f}
def OJ(a:List AM)(b:List At)(x:At):Option At:=
 (DA (a.map AM.name) x.kind).bind λ(n:Nat)=>(Gz a b x.Bo).map λt=>{x with Am:=n,Bo:=t}
def My(c:List AM)(d:List At)(a:BH):Option BH:=
 (Gz c d a.a).bind λx=>(Gz c d a.b).map λy=>{a with a:=x,b:=y}
def NN(a:List AM)(s:Int)(b:List At)(x:Bj):Option Bj:=
 (DA (Y2 a s) x.path).bind λ(n:Nat)=>(Gz a b x.BZ).map λt=>{x with field:=n,BZ:=t}
def GZ(a:List AM)(r:Ap):Option Ap:=
 (DA (a.map AM.name) r.head).bind λ(n:Nat)=>(Dn (OJ a) [] r.Ad).bind λb=>(EL r.AY (My a b)).bind λc=>(EL r.BC (NN a n b)).map λd=>{r with Am:=n,Ad:=b,AY:=c,BC:=d}
def OL(c:List AM)(a b:Int)(m:BD):Option BD:=
 (DA (Y2 c a) m.Aq).bind λ(x:Nat)=>(DA (Y2 c b) m.B1).map λ(y:Nat)=>{m with a:=x,b:=y}
def Zg(d:List AM)(c:Ai):Option Ai:=
 (DA (d.map AM.name) c.Aq).bind λ(a:Nat)=>(DA (d.map AM.name) c.B1).bind λ(b:Nat)=>(EL c.Ag (OL d a b)).map λe=>{c with a:=a,b:=b,Ag:=e}
def OZ(a:List AM)(m:CA):Option CA:=
 (DA (a.map AM.name) m.name).bind λ(s:Nat)=>(DA (Y2 a s) m.path).map λ(f:Nat)=>{m with Am:=s,field:=f}
def Wc(a:List AM)(p:AZ):Option AZ:=
 (EL p.CC (OZ a)).map λl=>{p with CC:=l}
def Ug(s:Al):Option Al:=
 (Dn (L5 (s.Ac.map Ax.name)) [] s.Ac).bind λe=>
 (EL s.AB (Va s.AR (s.Ac.map Ax.name))).bind λd=>
 (EL s.AP (GZ s.AB)).bind λc=>
 (EL s.AJ (Zg s.AB)).bind λa=>
 (EL s.AI (Wc s.AB)).map λb=>{s with Ac:=e,AB:=d,AP:=c,AJ:=a,AI:=b}
def R5(s:Al):Bool:=
 !(decide s.AR.Nodup&&decide (s.Ac.map Ax.name).Nodup&&decide (s.AB.map AM.name).Nodup&&decide (s.AI.map AZ.name).Nodup&&s.AB.all (λx=>decide (x.AL.map Ak.name).Nodup)&&s.AP.all (λr=>decide (r.Ad.map At.name).Nodup))
def Ypn:Nat:=0x12708d66900241e80230cc1b25be0238d60300c701e02f15002e0a800c08105d02d1db02e07e20e02347c18d16202c0cc02b26779b3e109b3e102c3e9bd707e24203602906702f05b02809187d0290ce7d002358700a162026292005b8a00b02e0252c13ca0210ba6030241e64b40235871625770230eb0251fb
def Ypo:Nat:=0x11254ce6a701f0a81e800797b8b464b0890e10c75869a10a8316ae94d111b64b13b00732901a07f0190dd0110baa3e0150a806a03801901d01606d1bc04339a01801d48f0910130dd0120ba00204501207e00b09d64b0080646670100cc00f0a801e1d37f700b10e3e900e26707e39a03600d06702da3109100606900d0ce7d00074422170890077596ec74e2d500914016c0ba041ae20081e617f64b0891d70d50eb0091fb
def uC:Nat:=0x13e5b0b03219e07204503307e0700b50238d62352708d60930210c702016305002157225164b6a70a564b6a705704704106916304e005c210440480500c705a8a4004a4f1db001b6d05f84703749200112209b1220370250f3a1302c03803613f00202b05b15205913d0340203e27631340d20e806a12c00816db4d04402f32b05f84702b09402a1070560c208c02608a02509b02502b0250299a302a03803602800202905b54e2db0276d97630240d202306a75716d53c04402232b05f0890d2a1202005601f6b308a01809b01880c01c01901e80f03601b00202705b01a4f304e01a6d9763b0d01401705601699808a00f09b00f01502501301001e28003679c02505b0111dc0022ca00b5c308571d00e0c100d6af04400935a108aba19b000032040882
def Zoi:S:=zS [(zS [] Ypo),(zS [] Ypn)] uC
def Yp0:Nat:=0x147086f010794011ac403472860514d0060604ab0841e50bc04d08aaa44be0881d70df00b26b77701871000aac80621af73d1d70607d2
def uK:Nat:=0x1a6a14d86f06f47086f6f926b71e006319637
def Zot:S:=zS [(zS [] Yp0)] uK
def Yq3:Nat:=0x1bac04305f6e135804305f6df0132370b00120460db07100f047042095679
def uu:Nat:=0x16e0
def Zp4:S:=zS [(zS [] Yq3)] uu
def n94:Nat:=0x10a005001e042042aeb
def Zp5:S:=zS [] n94
def Y91:Nat:=0x1bac0607ab3580607900131ed8891142809c2791bff
def n95:Nat:=0x16e0
def Zp6:S:=zS [(zS [] Y91)] n95
def Z2e:Xp prog 95 2 Zp6 [.t 4,.t 5]=true:=by kernel_rfl
def n96:Nat:=0x17ad280113
def Zp7:S:=zS [] n96
def Y92:Nat:=0x1bac0717ab358071bd613c0110b074e9c22090db09700f78b
def n97:Nat:=0x16e0
def Zp8:S:=zS [(zS [] Y92)] n97
def Z2g:Xp prog 97 2 Zp8 [.t 4,.t 5]=true:=by kernel_rfl
def Y93:Nat:=0x1b6808f003bb708f0037900130648895d72a46a205c0db003bff
def n99:Nat:=0x16e0
def Zqa:S:=zS [(zS [] Y93)] n99
def Z2i:Xp prog 99 2 Zqa [.t 4,.t 5]=true:=by kernel_rfl
def Ywy:Nat:=0x1b68824bb7824bd600b8893719c2c3bbff
def Zza:Nat:=0x16e0
def Y2v:S:=zS [(zS [] Ywy)] Zza
def Zi9:Xp prog 101 2 Y2v [.t 4,.t 5]=true:=by kernel_rfl
def Ywz:Nat:=0x1b68498bb7498bd6008889bec2a46a20b90db33f00f78b
def Zzb:Nat:=0x16e0
def Y2x:S:=zS [(zS [] Ywz)] Zzb
def Zjb:Xp prog 103 2 Y2x [.t 4,.t 5]=true:=by kernel_rfl
def Zsq:Nat:=0x17ad331113
def Y2y:S:=zS [] Zsq
def Yc4:Nat:=0x1c16
def sM:Nat:=0x10550f400180600f0215a555826222aa3226d00ea1f06224c26c0e116c09b00700c0251c901e0780015010010400f115877b
def Y2z:S:=zS [(zS [] Yc4)] sM
def Ydb:Nat:=0x1000c43b1d00e1e800d0cc00e0392c300c04f14e1ac21670700800b38e00a1e91a43fb0062d00092b800b2b575c07107104fa963fb04f00b0bb2b80060390f204f07119d04f099b9103d9de03e06d0002b500a06900a4cd00a08c0bb0391ab05007603e07e8421720b30613586e201025e2feac600880d03c07f1bc03a5200be03d12f0b903906d03b06c08a04802e03b51180d03c07f1bc03a5200be03d12f00815d03b07f08f03906d03b6c404e93888e03c12f09c03606d03806c6e808c47103907e05c00a15316c0369ad00a0651830340f50348deac600903315002e0a8032091af769002f140af7030091af787d13aa0508105d02d0cc02c1500270a802b2df415bd71400004150292df41500a1a24152554150260cc0259f30a847202210e06e1c40230f51c41be1c40212df1c400a174c4115001b0a815601d0eb06e58e01c2df58e00a17458e0b63e71500140a89c510e06e3cf0170f53cf1a53cf0152df3cf00a1a23cf8792430126e401109100a0500120ce0241792feac600801029200523e03d09f02e00f2c100d1b50ba1af00e1e600e8de707008a590eb00f1fb
def sW:Nat:=0x125cc430a5c4330c70909185d00b5720497070030960090cc5230a81390609230079f766792301d09639b0f14989232d703bad70a81390609230079f708c0070c70da00807e7fb36252d07e2500651830030c70440380621380021501520b90411370ea033a660000be06e3f113204c3f11be3f1af53f113f07903345c3f1122000b337aa04a0e80010ec02c0040961070040c28417e601017906205002b0b07eb0d07e9097027a3a025a820240e1c380d040809702004397a01e0436ef00305002802008c0260202ba2b608c53b3df86300800e83c1b3049010045183c370ac01c06a72f01b17c23901a0180768f2239ab50175172390486e26b182806a3c601417c1490130110768f21490120790104f91490486e2b7611d00dabf00ba23987013461b4bade
def Y3b:S:=zS [(zS [] Ydb)] sW
def kv:S2:=zL [] [] Ypn
def yq:=(by cbv:kv=_)
def kx:S2:=zL [] [] Ypo
def yr:=(by cbv:kx=_)
def Zqz:S2:=zL [] [kx,kv] uC
def Zvd:=(show Zqz=_ from (λ(a b:S2)=>(by cbv:zL [] [a,b] uC=_)) kx kv)
def Z0w:w_P prog 28 1 Zoi [.t 2,.t 3] [] Zqz:=w_p (by kernel_rfl)
def lQ:S2:=zL [] [] Yp0
def y9:=(by cbv:lQ=_)
def Zq9:S2:=zL [] [lQ] uK
def Zvn:=(show Zq9=_ from (λa=>(by cbv:zL [] [a] uK=_)) lQ)
def Z06:w_P prog 45 1 Zot [.t 2] [] Zq9:=w_p (by kernel_rfl)
def nD:S2:=zL [] [] Yq3
def zQ:=(by cbv:nD=_)
def Zsj:S2:=zL [] [nD] uu
def Zwp:=(show Zsj=_ from (λa=>(by cbv:zL [] [a] uu=_)) nD)
def Z2c:w_P prog 93 2 Zp4 [.t 4,.t 5] [] Zsj:=w_p (by kernel_rfl)
def Zsk:S2:=zL [] [] n94
def Zwq:=(by cbv:Zsk=_)
def Z2d:w_P prog 94 1 Zp5 [.t 2] [] Zsk:=w_p (by kernel_rfl)
def Zsl:S2:=zL [] [] n96
def Zwr:=(by cbv:Zsl=_)
def Z2f:w_P prog 96 1 Zp7 [.t 2] [] Zsl:=w_p (by kernel_rfl)
def Y6s:S2:=zL [] [] Zsq
def Zbw:=(by cbv:Y6s=_)
def Zjc:w_P prog 104 1 Y2y [.t 2] [] Y6s:=w_p (by kernel_rfl)
def gh:S2:=zL [] [] Yc4
def vP:=(by cbv:gh=_)
def Y6t:S2:=zL [] [gh] sM
def Zbx:=(show Y6t=_ from (λa=>(by cbv:zL [] [a] sM=_)) gh)
def Zjd:w_P prog 105 2 Y2z [.t 4] [] Y6t:=w_p (by kernel_rfl)
def gu:S2:=zL [] [] Ydb
def Rj:=(by cbv:gu=_)
def Y65:S2:=zL [] [gu] sW
def Y0p:=(show Y65=_ from (λa=>(by cbv:zL [] [a] sW=_)) gu)
def Zjr:w_P prog 127 2 Y3b [.t 4] [] Y65:=w_p (by kernel_rfl)
def ra(E z:Nat)(c:D):S2:=.seq (.rg [] [(1,(.a (.t 1))),(4,(.a (.t 4))),(5,(.a (.t 5))),(13,(.a (.t 13))),(14,(.a (.t 14))),(15,(.a (.t 15))),(16,(.b (.Bl .lss (.t 0) (.t 1)) (.a (.t 15)) (.a (.t 14))))] [])
 (.seq (.cond (.t 16) (.skip) (.exit 0))
 (.seq (.block 1 (.seq (.rg [.An [] (.u (.ld z true (.t 0)) (.b (.C8 z (.t 0) (.t 1)) (.a (.t 13)) (.a (.t 15)))),.lt 19 [] (.u (.ld z true (.t 0)) (.b (.C8 z (.t 0) (.t 1)) (.a (.t 13)) (.a (.t 15)))),.op (some 7) (.alloc E c),.op none (.st z (.t 7) (.t 19))] [(1,(.a (.t 1))),(4,(.a (.t 4))),(5,(.a (.t 5))),(6,(.a (.t 15))),(7,(.a (.t 7))),(13,(.a (.t 13))),(14,(.a (.t 14))),(15,(.a (.t 15)))] [])
 (.seq (.seq (.rg [.An [] (.u (.ld z true (.t 0)) (.a (.t 7))),.lt 23 [] (.u (.ld z true (.t 0)) (.a (.t 7))),.lt 22 [] (.a (.t 1)),.op (some 24) (.C6 (.t 22) [(.t 23)]),.lt 21 [] (.a (.t 4)),.op (some 25) (.LR (.AV []) (.int .i64 0) true (.t 21) (.t 24)),.An [] (.u (.ext (.t 0) 0) (.a (.t 25)))] [(1,(.a (.t 1))),(4,(.a (.t 4))),(5,(.a (.t 5))),(6,(.a (.t 6))),(7,(.a (.t 7))),(9,(.u (.ext (.t 0) 1) (.a (.t 25)))),(13,(.a (.t 13))),(14,(.a (.t 14))),(15,(.a (.t 15)))] [])
 (.seq (.rg [] [(1,(.a (.t 1))),(4,(.a (.t 4))),(5,(.a (.t 5))),(6,(.a (.t 6))),(7,(.a (.t 7))),(13,(.a (.t 13))),(14,(.a (.t 14))),(15,(.a (.t 15))),(28,(.a (.t 9)))] [])
 (.cond (.t 28) (.seq (.rg [] [(1,(.a (.t 1))),(4,(.a (.t 4))),(5,(.a (.bool true))),(13,(.a (.t 13))),(14,(.a (.t 14))),(15,(.a (.t 15)))] [])
 (.exit 1)) (.skip))))
 (.rg [.An [] (.u (.ld z true (.t 0)) (.a (.t 7))),.lt 31 [] (.u (.ld z true (.t 0)) (.a (.t 7))),.lt 30 [] (.a (.t 1)),.op (some 32) (.C6 (.t 30) [(.t 31)]),.lt 33 [] (.a (.t 6)),.lt 29 [] (.a (.t 4)),.op none (.DP (.AV []) (.t 29) (.t 32) (.t 33))] [(1,(.a (.t 1))),(4,(.a (.t 4))),(5,(.a (.t 5))),(13,(.a (.t 13))),(14,(.a (.t 14))),(15,(.a (.t 15)))] []))))
 (.rg [] [(1,(.a (.t 1))),(4,(.a (.t 4))),(5,(.a (.t 5))),(13,(.a (.t 13))),(14,(.a (.t 14))),(15,(.b (.Bl .add (.t 0) (.t 1)) (.a (.t 15)) (.a (.int .i64 1))))] [])))
def Pp(E z:Nat)(b:D):S2:=.seq (.rg [] [(0,(.a (.t 0))),(1,(.a (.t 1))),(5,(.a (.bool false)))] [])
 (.seq (.rg [.An [] (.u (.CU (.t 0)) (.a (.t 0))),.lt 11 [] (.u (.CU (.t 0)) (.a (.t 0))),.op (some 12) (.IZ (some (.t 11)))] [(0,(.a (.t 0))),(1,(.a (.t 1))),(4,(.a (.t 12))),(5,(.a (.t 5)))] [])
 (.seq (.seq (.rg [] [(1,(.a (.t 1))),(4,(.a (.t 4))),(5,(.a (.t 5))),(13,(.a (.t 0))),(14,(.u (.CU (.t 0)) (.a (.t 0)))),(15,(.a (.int .i64 0)))] [])
 (.block 0 (.loop [1,4,5,13,14,15] (ra E z b))))
 (.seq (.rg [] [(4,(.a (.t 4))),(5,(.a (.t 5)))] [])
 (.ret))))
section
variable {P:BE} {p:Program} (hPp:P.p=p) (hm:p.follows .mixedOrders=true)
include hPp hm
theorem TB{f E z g:Nat}{o:D}{U:S}(v:Xp p f 2 U [.t 4,.t 5]=true)(u:U.Af []=some (Pp E z o))
 {n:Type} {l:List n} {a:n->D} {nm:n->B} (hl:l.length<=9223372036854775807) (s:Xd p g=true) (m:∀(x:n)(b:AE)(K:BQ->AE->Prop),K (.ret (.d (.AV (nm x)))) b->Aa P g [.d (a x)] b K)
 (y:∀x,(a x).sz=z) (r:∀x,V.isAgg (.d (a x))=true) (w:∀x,(a x).shape=o.shape)
 {b:AE} {K:BQ->AE->Prop} (h:K (.ret (.BU [.mp (AA b),.d (.bool (!decide (l.map nm).Nodup))])) ((AA b,.map (Z6 (l.map nm) l.length))::b)):
 Aa P f [.d (.AH z (l.map a)),.fn g [] []] b K:=by
 refine Xv hPp hm v u A6.nil λ_ aa=>?_;have j:Xd P.p g=true:=by rw[hPp];exact s
 simp[Pp];refine EK l.length (λk=>[(1,.fn g [] []),(4,.mp (AA b)),(5,.d (.bool (!decide ((l.map nm).take k).Nodup))),(13,.d (.AH z (l.map a))),(14,.d (.int .i64 l.length)),(15,.d (.int .i64 k))])
  (λk=>(AA b,.map (Z6 (l.map nm) k))::b) (λ_=>True) trivial (by simp) (by simp[Z6]) ?_ ?_
 ·intro k O _ R X W rr rp
  have Y:=w_s k (by omega);have hx:=y l[k];have T:=w l[k];have F:(a l[k]).shape.size=z:=by grind[D4]
  have N:=r l[k];have Z:k<(l.map nm).length:=by simpa using O
  have J:=TH (l.map nm) (nm l[k]) k (by omega);have L:=TI (l.map nm) (nm l[k]) k;have G:o.shape.size=z:=by rw[<-T];exact F
  have ts:(l.map nm).take (k+1)=(l.map nm).take k++[nm l[k]]:=by grind[List.take_succ_eq_append_getElem]
  have H:Z6 (l.map nm) (k+1)=if nm l[k]∈(l.map nm).take k then Z6 (l.map nm) k else Z6 (l.map nm) k++[(.AV (nm l[k]),.d (.int .i64 k))]:=by
   simp_all[Z6]
  simp[ra,O,hx,T,F,G,j];refine⟨N,m _ _ _ ?_⟩;simp[J,L];cases Q:DA ((l.map nm).take k) (nm l[k]) with
  |some i=>
   have c:nm l[k]∈(l.map nm).take k:=by
    grind[Rn]
   have e:¬((l.map nm).take (k+1)).Nodup:=by
    grind
   simp;refine X [] _ _ trivial (by simp[Y,e]) ?_ (by simp ) ?_
   ·simp[H,c]
   simp_all[Z0,BV]
  |none=>
   have c:=Rn.1 Q;simp[F];refine⟨N,m _ _ _ ?_⟩;have q:Zo (.AV (nm l[k])) (Z6 (l.map nm) k)=none:=by rw[J,Q];rfl
   have e:decide ((l.map nm).take (k+1)).Nodup=decide ((l.map nm).take k).Nodup:=by
    grind
   simp[L,U4 _ _ _ q];refine X [] _ _ trivial (by simp[Y,e]) ?_ (by simp ) ?_
   ·simp[H,c]
   ·simp[Z0]
    simp_all[BV]
 ·intro _ R W rr rp
  simp[ra];refine W _ _ _ ?_;have ht:(l.map nm).take l.length=l.map nm:=QZ (by simp);simp[ht];refine⟨[AA b],by simp[AF],?_,?_⟩<;>simp_all[AA,AF,AN,Z0,BV]
end
def Yu7:Zp6.Af []=some (Pp 94 5 (.agg [.AV [],.AV [],.int .i64 0,.int .i64 0,.int .i64 0])):=by kernel_rfl
def Yu2:Xd prog 96=true:=by kernel_rfl
def Yaa:Zp8.Af []=some (Pp 72 6 (.agg [.AV [],.AV [],.int .i64 0,.int .i64 0,.Ah,.Ah])):=by kernel_rfl
def X95:Xd prog 98=true:=by kernel_rfl
def X48:Zqa.Af []=some (Pp 83 3 (.agg [.AV [],.Ah,.int .i64 0])):=by kernel_rfl
def X45:Xd prog 100=true:=by kernel_rfl
def Yku:Y2v.Af []=some (Pp 158 11 (.agg [.AV [],.agg [.int .i64 0,.int .i64 0,.int .i64 0,.AV [],.int .i64 0,.Ah],.agg (List.replicate 4 (.int .i64 0))])):=by kernel_rfl
def Ykp:Xd prog 102=true:=by kernel_rfl
def Yu6:Y2x.Af []=some (Pp 168 8 (.agg [.AV [],.AV [],.int .i64 0,.agg [.AV [],.AV [],.int .i64 0,.int .i64 0,.int .i64 0]])):=by kernel_rfl
def Yu1:Xd prog 104=true:=by kernel_rfl
include hP
theorem Yva{x:Ax}{a:AE}{K:BQ->AE->Prop}(h:K (.ret (.d (.AV x.name))) a):Aa P 96 [.d x.enc] a K:=by
 refine AW.Cc (AK hP AT (ds:=[x.enc]) Z2f.1 Z2f.2 A6.nil ?_);simp[Zwr,Ax.enc];exact h
theorem X9g{l:List Ax}(b:l.length<=9223372036854775807){a:AE}{K:BQ->AE->Prop}(h:K (.ret (.BU [.mp (AA a),.d (.bool (!decide (l.map Ax.name).Nodup))])) ((AA a,.map (Z6 (l.map Ax.name) l.length))::a)):
 Aa P 95 [.d (.AH 5 (l.map Ax.enc)),.fn 96 [] []] a K:=
 TB hP AT (nm:=Ax.name) Z2e Yu7 b Yu2 (λx a K h=>Yva hP h) (λ_=>rfl) (λ_=>rfl) (λ_=>rfl) h
theorem Xud{l:List AM}(b:l.length<=9223372036854775807){a:AE}{K:BQ->AE->Prop}(h:K (.ret (.BU [.mp (AA a),.d (.bool (!decide (l.map AM.name).Nodup))])) ((AA a,.map (Z6 (l.map AM.name) l.length))::a)):
 Aa P 97 [.d (.AH 6 (l.map AM.enc)),.fn 98 [] []] a K:=
 TB hP AT (nm:=AM.name) Z2g Yaa b X95 (λx a K h=>Zdt hP h) (λ_=>rfl) (λ_=>rfl) (λ_=>rfl) h
theorem Xqj{l:List AZ}(b:l.length<=9223372036854775807){a:AE}{K:BQ->AE->Prop}(h:K (.ret (.BU [.mp (AA a),.d (.bool (!decide (l.map AZ.name).Nodup))])) ((AA a,.map (Z6 (l.map AZ.name) l.length))::a)):
 Aa P 99 [.d (.AH 3 (l.map AZ.enc)),.fn 100 [] []] a K:=
 TB hP AT (nm:=AZ.name) Z2i X48 b X45 (λx a K h=>Zwt hP h) (λ_=>rfl) (λ_=>rfl) (λ_=>rfl) h
theorem X4m{l:List Ak}(b:l.length<=9223372036854775807){a:AE}{K:BQ->AE->Prop}(h:K (.ret (.BU [.mp (AA a),.d (.bool (!decide (l.map Ak.name).Nodup))])) ((AA a,.map (Z6 (l.map Ak.name) l.length))::a)):
 Aa P 101 [.d (.AH 11 (l.map Ak.enc)),.fn 102 [] []] a K:=
 TB hP AT (nm:=Ak.name) Zi9 Yku b Ykp (λx a K h=>Zds hP h) (λ_=>rfl) (λ_=>rfl) (λ_=>rfl) h
theorem Yu9{x:At}{a:AE}{K:BQ->AE->Prop}(h:K (.ret (.d (.AV x.name))) a):Aa P 104 [.d x.enc] a K:=by
 refine AW.Cc (AK hP AT (ds:=[x.enc]) Zjc.1 Zjc.2 A6.nil ?_);simp[Zbw,At.enc,A4.enc];exact h
theorem X9f{l:List At}(b:l.length<=9223372036854775807){a:AE}{K:BQ->AE->Prop}(h:K (.ret (.BU [.mp (AA a),.d (.bool (!decide (l.map At.name).Nodup))])) ((AA a,.map (Z6 (l.map At.name) l.length))::a)):
 Aa P 103 [.d (.AH 8 (l.map At.enc)),.fn 104 [] []] a K:=
 TB hP AT (nm:=At.name) Zjb Yu6 b Yu1 (λx a K h=>Yu9 hP h) (λ_=>rfl) (λ_=>rfl) (λ_=>rfl) h
omit hP
abbrev Z4:D:=.iface 89 (.agg [])
def Y1r:Xd prog 94=true:=by kernel_rfl
include hP
theorem Yn3{x:B}{a:AE}{K:BQ->AE->Prop}(h:K (.ret (.d (.AV x))) a):Aa P 94 [.d (.AV x)] a K:=by
 refine AW.Cc (AK hP AT (ds:=[.AV x]) Z2d.1 Z2d.2 A6.nil ?_);simp[Zwq];exact h
theorem Yjx{l:List B}(N:l.length<=9223372036854775807){g:AE}{K:BQ->AE->Prop}(h:K (.ret (.BU [.mp (AA g),.d (.bool (!decide l.Nodup))])) ((AA g,.map (Z6 l l.length))::g)):
 Aa P 93 [.d (Xg l),.fn 94 [] []] g K:=by
 have f:Xd P.p 94=true:=by rw[hP];exact Y1r
 refine Xv hP AT Z2c.1 Z2c.2 A6.nil λ_ m=>?_;simp only[Xg];simp[Zwp];refine EK l.length (λk=>[(1,.fn 94 [] []),(4,.mp (AA g)),(5,.d (.bool (!decide (l.take k).Nodup))),(13,.d (.AH 1 (l.map .AV))),(14,.d (.int .i64 l.length)),(15,.d (.int .i64 k))])
  (λk=>(AA g,.map (Z6 l k))::g) (λ_=>True) trivial (by simp) (by simp[Z6]) ?_ ?_
 ·intro k w _ R y x L J;have F:=w_s k (by omega);have o:=w;have t:=TH l l[k] k (by omega);have u:=TI l l[k] k;have z:l.take (k+1)=l.take k++[l[k]]:=by rw[F0 o]
  have s:Z6 l (k+1)=if l[k]∈l.take k then Z6 l k else Z6 l k++[(.AV l[k],.d (.int .i64 k))]:=by
   rw[Z6,EW o]
  simp[zQ,w,f];refine Yn3 hP ?_;simp[t,u];cases q:DA (l.take k) (l[k]) with
  |some i=>
   have c:l[k]∈l.take k:=by
    rcases Classical.em (l[k]∈l.take k) with h|h
    ·exact h
    ·rw[Rn.2 h]at q;cases q
   have j:¬(l.take (k+1)).Nodup:=by
    rw[z,Io];exact λn=>n.2.2 _ c _ (by simp) rfl
   simp;refine y [] _ _ trivial (by simp[F,j]) ?_ (by simp[AF]) ?_
   ·simp[s,c,AF]
   ·simp[AF,AN,Z0];exact BV m (by omega)
  |none=>
   have c:=Rn.1 q;simp[f];refine Yn3 hP ?_;have r:Zo (.AV l[k]) (Z6 l k)=none:=by rw[t,q];rfl
   have j:decide (l.take (k+1)).Nodup=decide (l.take k).Nodup:=by
    rw[z,decide_eq_decide,Io];constructor
    ·exact λn=>n.1
    ·refine λn=>⟨n,by simp,λa G b v=>?_⟩;simp only[O6]at v;subst v;exact λe=>c (e▸G)
   simp[u,U4 _ _ _ r];refine y [] _ _ trivial (by simp[F,j]) ?_ (by simp[AF]) ?_
   ·simp[s,c,AF]
   ·simp[AF,AN,Z0];exact BV m (by omega)
 ·intro _ R x L J;simp[zQ];refine x _ _ _ ?_;have H:l.take l.length=l:=QZ (by simp);simp[H];refine⟨[AA g],by simp[AF],?_,?_⟩
  ·simp[AF,AN,Z0];exact BV m (by omega)
  ·simpa[AF]using h
theorem Zt{m:Nat}{l:List B}{n:B}{b:AE}(j:AD b m=some (.map (Z6 l l.length))){K:BQ->AE->Prop}(h:∀i,DA l n=some i->K (.ret (.d (.int .i64 i))) b)(g:DA l n=none->K (.panic (.d Z4)) b):
 Aa P 105 [.mp m,.d (.AV n)] b K:=by
 refine Ae hP AT Zjd.1 Zjd.2 A6.nil λ_ k=>?_;have a:=k [];have c:=TH l n l.length (B9 _);have f:=TI l n l.length;rw[HI]at c;simp[Zbx,j,c,f];cases e:DA l n with
 |none=>
  simp[vP];exact⟨[],by simp,by simpa[AF]using a,by simpa[AF]using g e⟩
 |some i=>
  simp[vP];exact⟨[],by simp,by simpa[AF]using a,by simpa[AF]using h i e⟩
omit hP
section
variable (ob:AE) (z n i f j k:Nat) (kd:IntKind) (m:Int) (p:List Nat) (b:Bool) (v:V) (E:Nat) (xs:List D) (vs:List V)
@[simp]def idxAV_sl:Lt z (.sl j n) (.d (.int kd m))=.ep j n z m.toNat 0 []:=by simp only[Lt]
@[simp]def idxAS_sl:Ls ob z (.sl j n) (.d (.int kd m))=((0<=m/\m<n)/\Re z (Ql n m.toNat (AD ob j))):=by simp[Ls,Hl]
@[simp]def elemO_arr:Ql n i (some (.BO E z xs))=if n=xs.length then (xs.map V.d)[i]? else none:=by simp only[Ql]
@[simp]def elemO_vec:Ql n i (some (.A0 E z vs))=if n=vs.length then vs[i]? else none:=by simp only[Ql]
@[simp]def idxEK_s:Re z (some v)=(v.size=z):=by simp only[Re]
@[simp]def ldV_ep:G8 ob (.ep j n z i f p)=OX (JD ob j n z i f p):=by simp only[G8]
@[simp]def ldS_ep:IX ob k b (.ep j n z i f p)=SI k b (JD ob j n z i f p):=by
 simp only[IX,E9,G8];cases JD ob j n z i f p<;>simp[Ge,SI,OX]
@[simp]def atE_eq:JD ob j n z i f p=NJ z f p (Ql n i (AD ob j)):=rfl
@[simp]def atEv_s:NJ z f p (some v)=if z=v.size/\f=v.shape.off p then v.at p else none:=by simp only[NJ]
@[simp]def fldAV_ep(a:Nat):Us k f (.ep j n z i a p)=.ep j n z i (a+f) (p++[k]):=by simp only[Us]
@[simp]def fldAS_ep(a:Nat):I7 ob k f (.ep j n z i a p)=True:=by simp[I7,Qm]
@[simp]def Sh.Nf(s:Sh):s.off []=0:=by simp[Sh.off]
@[simp]def Rc3(l:List Sh)(i:Nat)(p:List Nat):(Sh.node l).off (i::p)=Sh.Br (l.take i)+(l.getD i .leaf).off p:=by simp only[Sh.off]
end
section
variable {P:BE} {sl:Xf} {ob:AE} {KO Pn:V->AE->Prop} {x y:A} {K:V->Prop}
@[simp]def iwp_mks(E a B:Nat)(z:D):I.wp P sl ob KO Pn (.MT E a B z x)=Pu E a B z ob KO (x.ev sl):=by simp only[I.wp]
@[simp]def mksK_i(E a B:Nat)(z:D)(n:Int):Pu E a B z ob KO (.d (.int .i64 n))=(0<=n/\n*B<=281474976710656/\KO (.sl (AA ob) n.toNat) ((AA ob,.BO E a (List.replicate n.toNat z))::ob)):=by simp only[Pu]
@[simp]def idxAK_sl(j n z:Nat)(a:IntKind)(m:Int):Hl ob z K (.sl j n) (.d (.int a m))=((0<=m/\m<n)/\Re z (Ql n m.toNat (AD ob j))/\K (.ep j n z m.toNat 0 [])):=by simp only[Hl]
@[simp]def stK_ep(n:Nat)(v:V)(j m z i f:Nat)(p:List Nat):H5 ob n v KO (.ep j m z i f p)=Pw ob j m z i f p n v KO (AD ob j):=by simp only[H5]
@[simp]def stEo_s(n:Nat)(v:V)(j m z i f:Nat)(p:List Nat)(o:Ob):Pw ob j m z i f p n v KO (some o)=SQ ob j i n o v z f p KO (Ql m i (some o)):=by simp only[Pw]
@[simp]def stEv_s(n:Nat)(v:V)(j i z f:Nat)(p:List Nat)(o:Ob)(a:V):SQ ob j i n o v z f p KO (some a)=((z=a.size/\f=a.shape.off p)/\Px ob j i n o v a p KO (a.at p)):=by simp only[SQ]
@[simp]def stEt_s(n:Nat)(v:V)(j i:Nat)(p:List Nat)(o:Ob)(c a:V):Px ob j i n o v c p KO (some a)=(v.shape=a.shape/\a.size=n/\v.Hb=true/\∃b,c.set p v=some b/\KO .undef (AG ob j (NH o i b))):=by simp only[Px]
@[simp]def setEl_vec(E z i:Nat)(a:List V)(t:V):NH (.A0 E z a) i t=.A0 E z (a.set i t):=by simp only[NH]
@[simp]def setEl_arr(E z i:Nat)(a:List D)(t:D):NH (.BO E z a) i (.d t)=.BO E z (a.set i t):=by simp only[NH]
@[simp]def fldAK_ep(k f:Nat)(j n z i a:Nat)(p:List Nat):Qm ob k f K (.ep j n z i a p)=K (.ep j n z i (a+f) (p++[k])):=by simp only[Qm]
@[simp]def ldK_ep(n:Nat)(a:Bool)(j m z i f:Nat)(p:List Nat):E9 ob n a K (.ep j m z i f p)=Ge n a K (JD ob j m z i f p):=by simp only[E9]
@[simp]def nilcK_ep(j m z i f:Nat)(p:List Nat):IP K (.ep j m z i f p)=K (.ep j m z i f p):=by simp only[IP]
@[simp]def nilcS_ep(j m z i f:Nat)(p:List Nat):NB (.ep j m z i f p)=True:=by simp[NB]
end
def QR{l a:AE}{id i E z k:Nat}{c:List V}{v:V}{d:D}(O:AD l id=some (.A0 E z c))(o:c[i]? = some v)(N:Dc k l v=some (d,a))(f:AD a id=some (.A0 E z c))(hs:d.shape=v.shape):
 Wk l (AG a id (.A0 E z (c.set i (.d d)))):=λw Y r=>by
 have n:i<c.length:=(HF.1 o).1;rcases r.Ba id _ O with⟨_,rfl⟩|⟨b,e,y,W,H,J,K,q,L⟩
 ·simp at n
 obtain⟨c1,u,c3,e1,e2,g1,G,g3⟩:=Oz K o;obtain⟨⟨h,t,s,j,P⟩,hk⟩:=fS k v l Y u d a r G N;refine⟨h,t,s.swap f ?_⟩;have g:h.m id=some (.BO b c.length e):=by
  obtain⟨o',Q,T⟩:=t.same id _ H;rcases s.Ba id _ f with⟨_,rfl⟩|⟨Z,p,F,X,U,_⟩
  ·simp at n
  ·rw[Q]at U;cases T<;>simp_all
 refine .inr ⟨b,e,y,W,by simpa using g,J,?_,λx j=>?_,L⟩
 ·have e8:c.set i (.d d)=c.take i++(.d d::c.drop (i+1)):=WT.trans (by simp[n]);grind[QL,IA,Cg,V.Au]
 ·rcases List.mem_or_eq_of_mem_set j with j|rfl
  ·exact q x j
  ·have:=q v (List.mem_of_getElem? o);simp_all
def Yb5{a b:AE}(h:a.Perm b):FN a->FN b/\∀j,AD b j=AD a j:=by
 induction h with
 |nil=>simp
 |cons x _ i=>
  rintro⟨c,e⟩;obtain⟨f,d⟩:=i e;refine⟨⟨by rw[d];exact c,f⟩,λj=>?_⟩;simp only[AD,d]
 |swap x y l=>
  rintro⟨c,e,g⟩;simp only[AD]at c;split at c
  ·cases c
  ·refine⟨⟨?_,c,g⟩,λj=>?_⟩<;>grind[AD]
 |trans _ _ k m=>
  simp_all
def dN{a b:AE}(h:a.Perm b):Wk a b:=λw e c=>by
 obtain⟨f,d⟩:=Yb5 h c.C4;exact⟨e,Tr.refl w e,λj x i=>c.Ba j x (by rw[<-d];exact i),λj o g=>by rw[d];exact c.Ev j o g,c.inj,c.FV,c.EZ,c.D1,f⟩
def Un.tr{w b:World}{ρ a:BF}(t:Tr w ρ b a){e:Ending}{o:BQ}(h:Un w ρ e o):Un b a e o:=by
 cases e<;>cases o<;>first|exact(h:False).elim|skip
 ·exact HD t h
 ·obtain⟨u,e,h⟩:=h;exact⟨u,e,HD t h⟩
def Aa.wk{P:BE}{f:Nat}{m:List V}{j:AE}{K:BQ->AE->Prop}(h:Aa P f m j λo b=>∃c,Wk b c/\K o c):Aa P f m j K:=
 ⟨λw x a q p r=>(h.run w x a q p r).mono λe v ⟨o,b,g,⟨c,s,k⟩,d,n,t⟩=>by
  obtain⟨i,l,u⟩:=s v g n;refine⟨o,c,i,k,?_,u,t.trans l⟩;exact Un.tr l d⟩
def BQ.Bg(p:Nat->Bool):BQ->Bool
|.ret v=>V.Bg p v
|.panic v=>V.Bg p v
def Un.Cs{w:World}{b:BF}{p:Nat->Bool}{e:Ending}{o:BQ}(a:BQ.Bg p o=false)(h:Un w b e o):Un w (b.Cs p) e o:=by
 cases e<;>cases o<;>first|exact(h:False).elim|skip
 ·exact Nq a h
 ·obtain⟨u,e,h⟩:=h;exact⟨u,e,Nq a h⟩
def Aa.G9{P:BE}{f:Nat}{q:List V}{c:AE}{K:BQ->AE->Prop}
 (h:Aa P f q c λo b=>∃i d,Wk b i/\BQ.Bg (AF (AA c) d) o=false/\AN (AF (AA c) d) (Xo (AF (AA c) d) i)=true/\K o (Xo (AF (AA c) d) i)):Aa P f q c K:=
 ⟨λw L g n s u=>(h.run w L g n s u).mono λe J ⟨o,b,l,⟨i,d,v,y,z,F⟩,k,r,t⟩=>by
  obtain⟨m,p,G⟩:=v J l r;have a:=t.trans p;refine⟨o,_,m.Cs (AF (AA c) d),F,Un.Cs y (Un.tr p k),G.Cs z,?_⟩;refine⟨a.size,a.keep,λb j=>a.DY b (Vc j),a.xo,a.gl,λid o j=>?_,a.tape,a.os,a.C3,a.drawn⟩;obtain⟨T,N,O⟩:=a.same id o j;have H:AF (AA c) d id=false:=by
   obtain⟨x,Q⟩:=n.Ev id o j;simp_all
  simp_all[BF.Cs]⟩
def Aa.pre{P:BE}{f:Nat}{m:List V}{l c:AE}{K:BQ->AE->Prop}(s:Wk l c)(h:Aa P f m c K):Aa P f m l K:=
 ⟨λw v a q p r=>by
  obtain⟨j,g,u⟩:=s w v q;exact(h.run w j a u (g.gl.trans p) (Md g _ _ r)).mono λe x ⟨o,b,i,k,d,n,t⟩=>⟨o,b,i,k,d,n,g.trans t⟩⟩
def Ybi{b:Type}{k:Nat}(f:b->D)(a:AE):∀l:List b,FX (Dc (k+1)) a (l.map λx=>V.d (f x))=some (l.map f,a)
|[]=>rfl
|x::r=>by
 have e:Dc (k+1) a (.d (f x))=some (f x,a):=rfl;simp only[Dj,FX,e,Ybi f a r,Jb]
def I2{b:Type}{k id E z n:Nat}(f:b->D){l:List b}{a:AE}(h:AD a id=some (.A0 E z (l.map λx=>V.d (f x))))(g:z≠0)(c:n=l.length):Dc (k+2) a (.sl id n)=some (.AH z (l.map f),AG a id .Ar):=by
 have e:Dc (k+2) a (.sl id n)=UE (Dc (k+1)) a id n (AD a id):=rfl;simp_all[UE,Ybi,cx,tW]
def Yoc{k id E z n:Nat}{b:List D}{a:AE}(h:AD a id=some (.BO E z b))(d:z≠0)(c:n=b.length):Dc (k+1) a (.sl id n)=some (.AH z b,AG a id .Ar):=by
 simp_all[Dc,UE]
def Qr(k:Nat):Nat:=if k=0 then 10 else 12+2*k
def IN(k:Nat):List V:=(List.range k).map λj=>.mp (Qr j)
def Es(a:List AM)(k:Nat):List B:=match a[k]? with
|some s=>s.AL.map Ak.name
|none=>[]
def Jm(l:List B):Ob:=.map (Z6 l l.length)
def Qu(a:List AM):Nat->AE
|0=>[]
|k+1=>(Qr k,Jm (Es a k))::Qu a k
def Fp(k:Nat):AE:=if k=0 then[] else[(12,.A0 102 1 (IN k))]
def IW(k:Nat):V:=if k=0 then .d .Ah else .sl 12 k
abbrev VY(k:Nat):Ob:=.box 105 (.agg [.mp 5,.mp 6,.mp 7,IW k])
def Vs(y:Al)(k:Nat)(c b a:Ob):AE:=[(8,Jm (y.AI.map AZ.name)),(7,Jm (y.AB.map AM.name)),(6,Jm (y.Ac.map Ax.name)),(5,Jm y.AR),(4,VY k),(3,.box 30 (.d y.enc)),(2,c),(1,b),(0,a)]
def Z7(y:Al)(k:Nat)(c b a:Ob):AE:=Fp k++(Vs y k c b a++Qu y.AB k)
def Ywt(k:Nat):10<=Qr k/\Qr k≠12/\Qr k≠11:=by grind[Qr]
theorem Xte{a:List AM}{i:Nat}:∀k,i<k->AD (Qu a k) (Qr i)=some (Jm (Es a i))
|0,h=>absurd h (by omega)
|k+1,h=>by
 rw[Qu,AD];by_cases e:i=k
 ·simp_all
 ·rw[A5 (by grind[Qr])];exact Xte k (by omega)
def Xl5{ss:List AM}:∀k,AA (Qu ss k)=if k=0 then 0 else Qr (k-1)+1
|0=>rfl
|k+1=>by
 have b:=Xl5 (ss:=ss) k;have a:AA (Qu ss k)<=Qr k:=by
  rw[b];unfold Qr;grind
 simp_all[Qu,AA,Bv]
def Xlp(k:Nat):IN (k+1)=IN k++[.mp (Qr k)]:=by simp[IN,List.range_succ]
def Vm(k:Nat):(IN k).length=k:=by simp[IN]
section
variable {y:Al} {k:Nat} {o2 o1 o0:Ob}
theorem Vi(p:Nat->Bool):∀(a b:AE),Xo p (a++b)=Xo p a++Xo p b
|[],b=>rfl
|(j,o)::r,b=>by
 simp only[F1,Xo,Vi p r b];split<;>simp
def rk:AD (Z7 y k o2 o1 o0) 4=some (VY k):=by
 unfold Z7 Vs Fp;split<;>simp[AD]
def nj(h:k≠0):AD (Z7 y k o2 o1 o0) 12=some (.A0 102 1 (IN k)):=by
 simp_all[Z7,Vs,Fp,A5,AD]
theorem XU:AA (Z7 y k o2 o1 o0)=if k=0 then 9 else 11+2*k:=by
 have a:=Xl5 (ss:=y.AB) k;unfold Z7 Vs Fp;by_cases h:k=0
 ·subst h;simp[Qu]
 ·rw[A5 h,A5 h];rw[A5 h]at a;by_cases c:k-1=0
  ·simp_all[Qu,Qr]<;>omega
  ·have b:AA (Qu y.AB k)=11+2*k:=by simp_all[Qr,A5]<;>omega
   have e:∀{j:Nat}{o:Ob}{r:AE},AA r=11+2*k->j<13->AA ((j,o)::r)=11+2*k:=λf d=>by
    simp_all<;>omega
   simp only[F1,Gx];grind
def Um(p:Nat->Bool):∀(a b:AE),AN p (a++b)=(AN p a&&AN p b)
|[],b=>by simp 
|(j,o)::r,b=>by
 have c:=Um p r b;cases o<;>simp only[F1,AN,c,Bool.and_assoc]
def Xl6(p:Nat->Bool)(a:List AM):∀k,AN p (Qu a k)=true
|0=>rfl
|k+1=>by simp[Qu,Jm,Z0,Xl6 p a k]
def Xsf{p:Nat->Bool}:∀{k:Nat},(∀i,i<k->p (Qr i)=false)->Bu p (IN k)=false
|0,_=>rfl
|k+1,h=>by
 have c:∀(a b:List V),Bu p (a++b)=(Bu p a||Bu p b):=λa b=>by
  induction a<;>simp_all[Bu,Bool.or_assoc]
 rw[Xlp,c,Xsf λi d=>h i (by omega)];simp_all
def TM{p:Nat->Bool}(b:AN p [(2,o2),(1,o1),(0,o0)]=true)(c:p 5=false)(d:p 6=false)(e:p 7=false)(a:k≠0->p 12=false)(f:∀i,i<k->p (Qr i)=false):AN p (Z7 y k o2 o1 o0)=true:=by
 unfold Z7 Vs Fp;rw[Um,Um,Xl6];split<;>simp_all[AN,Jm,Z0,V.Bg,Bu,IW,Xsf]
def Zeb:AD (Z7 y k o2 o1 o0) 3=some (.box 30 (.d y.enc)):=by
 unfold Z7 Vs Fp;split<;>simp[AD]
def Yvu(a:k≠0):AG (AG (Z7 y k o2 o1 o0) 12 (.A0 102 1 (IN k++[.mp (Qr k)]))) 4 (.box 105 (.agg [.mp 5,.mp 6,.mp 7,.sl 12 (k+1)]))=Fp (k+1)++(Vs y (k+1) o2 o1 o0++Qu y.AB k):=by
 simp_all[Z7,Vs,Fp,AG,Xlp,IW]
def Ylp{n:Nat}{l:List Nat}(f:13<=n)(e:k≠0)(a:∀i,i<k->n<=Qr i->Qr i∈l):Xo (AF n l) (Z7 y k o2 o1 o0)=Z7 y k o2 o1 o0:=by
 have b:∀m,(∀i,i<m->n<=Qr i->Qr i∈l)->Xo (AF n l) (Qu y.AB m)=Qu y.AB m:=λm=>by
  induction m with
  |zero=>intro _;rfl
  |succ m g=>
   intro h;have c:AF n l (Qr m)=false:=by
    simp only[AF,Bool.and_eq_false_iff,S0,Bool.not_eq_eq_eq_not,Kj,List.contains_eq_mem,D2];grind
   grind[Qu,Xo]
 unfold Z7;rw[Vi,Vi,b k a];have d:Xo (AF n l) (Vs y k o2 o1 o0)=Vs y k o2 o1 o0:=Xl (by simp[Vs];omega);simp_all[Xo,AF,Fp,Xl]
def Y2h:AD (Z7 y k o2 o1 o0) 5=some (Jm y.AR):=by
 unfold Z7 Vs Fp;split<;>simp[AD]
def Y2i:AD (Z7 y k o2 o1 o0) 6=some (Jm (y.Ac.map Ax.name)):=by
 grind[Z7,Vs,Fp,AD]
def Y2j:AD (Z7 y k o2 o1 o0) 7=some (Jm (y.AB.map AM.name)):=by
 grind[Z7,Vs,Fp,AD]
def Ya9{i:Nat}(b:i<k):AD (Z7 y k o2 o1 o0) (Qr i)=some (Jm (Es y.AB i)):=by
 have a:=Ywt i;have e:∀(j:Nat)(o:Ob)(r:AE),j≠Qr i->AD ((j,o)::r) (Qr i)=AD r (Qr i):=λj o r h=>by simp[h]
 unfold Z7 Vs Fp;rw[A5 (by omega)];simp;grind[Xte]
def Yba(a:∀d,AN (AF 3 d) [(2,o2),(1,o1),(0,o0)]=true){n:Nat}{l:List Nat}(c:AA (Z7 y k o2 o1 o0)<=n):AN (AF n l) (Z7 y k o2 o1 o0)=true:=by
 have b:=XU (y:=y) (k:=k) (o2:=o2) (o1:=o1) (o0:=o0);have e:9<=n:=by
  grind
 refine TM (BV (ob:=[(2,o2),(1,o1),(0,o0)]) (by simpa using a) (by simp;omega)) (by simp[AF];omega) (by simp[AF];omega) (by simp[AF];omega) (λh=>?_) (λi f=>?_)
 ·simp_all[A5,AF]<;>omega
 ·rw[b,A5 (by omega)]at c;grind[Qr,AF]
def Uc(a:AE):List Nat:=a.map (·.1)
def Wv{a:AE}{j:Nat}{o:Ob}(h:AD a j=some o):j∈Uc a:=by
 induction a<;>grind[AD,Uc,List.mem_cons_of_mem]
def Y7{n:Nat}{l:List Nat}:∀{a:AE},(∀j∈Uc a,j∈l)->Xo (AF n l) a=a
|[],_=>rfl
|(i,x)::r,h=>by
 have b:AF n l i=false:=by simp_all[AF,Uc]
 rw[Xo,b,Y7 λj c=>h j (by simp_all[Uc,WX])];simp
end
include hP
theorem Yjy{y:Al}(q:y.BJ)(hn:y.AB.length<=1000000){o2 o1 o0:Ob}{K:BQ->AE->Prop}(h:K (.ret (.BU [.ptr 4 [],.d (.bool (R5 y))])) (Z7 y y.AB.length o2 o1 o0)):
 Aa P 28 [.d y.enc] [(2,o2),(1,o1),(0,o0)] K:=by
 refine Xv hP AT Z0w.1 Z0w.2 A6.nil λ_ p=>?_;have t:(V.d y.enc).Bk=some [.d (Xg y.AR),.d (.AH 5 (y.Ac.map Ax.enc)),.d (.AH 6 (y.AB.map AM.enc)),.d (.AH 5 (y.AP.map Ap.enc)),.d (.AH 5 (y.AJ.map Ai.enc)),.d (.AH 3 (y.AI.map AZ.enc))]:=rfl;simp[Zvd,t];have U:(Xg y.AR).shape.size=1:=rfl;refine⟨⟨rfl,rfl⟩,Yjx hP q.AR ?_⟩;simp[t,U,Cb];refine X9g hP q.Ac ?_;simp[t,U,Cb];refine Xud hP q.AB ?_;simp[t,U,Cb];refine Xqj hP q.AI ?_;simp[t,U];have aa:∀k,k<y.AB.length->(Es y.AB k)=(y.AB.map λs=>s.AL.map Ak.name)[k]!:=λk g=>by simp[Es,g]
 let tw:=λk=>(!decide y.AR.Nodup||!decide (y.Ac.map Ax.name).Nodup||!decide (y.AB.map AM.name).Nodup||!decide (y.AI.map AZ.name).Nodup)||(y.AB.take k).any λx=>!decide (x.AL.map Ak.name).Nodup
 refine vJ (ι:=Nat) (λk=>[(1,.ptr 3 []),(2,.ptr 4 []),(3,.d (.bool (tw k))),(61,.d (.AH 6 (y.AB.map AM.enc))),(62,.d (.int .i64 y.AB.length)),(63,.d (.int .i64 k))])
  (λk=>Z7 y k o2 o1 o0) (λk=>k<=y.AB.length) (λk=>y.AB.length-k) 0 (FL _) (by simp[tw]) (by simp[Z7,Vs,Fp,Qu,IW,Jm]) ?_
 intro k g R Q O rr rp;by_cases e:k<y.AB.length
 ·have wr:=w_s k (by omega);have Z:=q.Am _ (DS e);have xk:(V.d y.AB[k].enc).Bk=some [.d (.AV y.AB[k].name),.d (.AV y.AB[k].Dy),.d (iD y.AB[k].CN),.d (iD y.AB[k].BL),.d (.AH 11 (y.AB[k].AL.map Ak.enc)),.d (.AH 4 (y.AB[k].AU.map Av.enc))]:=rfl;have xz:∀x:AM,x.enc.sz=6:=λ_=>rfl;have xs:∀x:AM,x.enc.shape.size=6:=λx=>by rfl
  have xh:∀x:AM,x.enc.shape=.node [.leaf,.leaf,.leaf,.leaf,.leaf,.leaf]:=λ_=>rfl;have g4:=rk (y:=y) (k:=k) (o2:=o2) (o1:=o1) (o0:=o0);have L:=XU (y:=y) (k:=k) (o2:=o2) (o1:=o1) (o0:=o0);have fr:AA ((AA (Z7 y k o2 o1 o0),Ob.box 72 (.d y.AB[k].enc))::Z7 y k o2 o1 o0)=AA (Z7 y k o2 o1 o0)+1:=by simp
  simp[yr,e,xz,xh,xk];refine⟨rfl,X4m hP Z.AL ?_⟩;have u:∀{b:Bool},tw (k+1)=(tw k||!decide (y.AB[k].AL.map Ak.name).Nodup):=by
   grind[List.take_succ_eq_append_getElem,Bool.or_assoc]
  by_cases c:k=0
  ·subst c;have w1:IntKind.i64.wrap 1=1:=w_i _ (by omega);simp[Z7,Vs,Fp,Qu,IW,I.wp,Od,Kn,RR,Jm];refine⟨_,_,⟨rfl,rfl⟩,rfl,rfl,?_⟩;simp[Cb,w1];have F:tw 1=(tw 0||!decide (y.AB[0].AL.map Ak.name).Nodup):=u (b:=true);have ea:∀v w m b,[(12,v),(11,w),(10,m),(9,b),(8,.map (Z6 (y.AI.map AZ.name) y.AI.length)),(7,.map (Z6 (y.AB.map AM.name) y.AB.length)),(6,.map (Z6 (y.Ac.map Ax.name) y.Ac.length)),(5,.map (Z6 y.AR y.AR.length)),(4,.box 105 (V.agg [.mp 5,.mp 6,.mp 7,.sl 12 1])),(3,.box 30 (.d y.enc)),(2,o2),(1,o1),(0,o0)]
    = (12,v)::(11,w)::(10,m)::((9,b)::Vs y 1 o2 o1 o0):=λv w m b=>by simp[Vs,Jm,IW]
   have W:Ob.map (Z6 (y.AB[0].AL.map Ak.name) y.AB[0].AL.length)=Jm (Es y.AB 0):=by simp[Jm,Es,e]
   rw[ea,W];refine Q [10,12] 1 _ _ _ (dN (.cons _ (.cons _ (List.perm_append_singleton _ _).symm))) (by omega) (by omega) (by simp[F]) ?_ (by rw[L];simp ) ?_
   ·simp[Z7,Vs,Fp,Qu,AF,Qr,Vi,IN]
   ·rw[L];refine TM ?_ (by simp ) (by simp ) (by simp ) (λ_=>by simp[AF]) (λi N=>?_)
    ·exact BV (ob:=[(2,o2),(1,o1),(0,o0)]) p (by simp)
    grind[AF,Qr]
  ·have Y:=nj (y:=y) (o2:=o2) (o1:=o1) (o0:=o0) c;rw[A5 c]at L;have X:∀n,n<=12->(AA (Z7 y k o2 o1 o0)=n)=False:=λn hn=>by grind
   simp[g4,Y,IW,c,I.wp,Od,Kn,RR,X];refine⟨_,_,⟨rfl,rfl⟩,rfl,rfl,?_⟩;simp[Cb,Vm];refine⟨by omega,?_⟩;have W:Ob.map (Z6 (y.AB[k].AL.map Ak.name) y.AB[k].AL.length)=Jm (Es y.AB k):=by simp[Jm,Es,e]
   have ek:AA (Z7 y k o2 o1 o0)+1=Qr k:=by unfold Qr;rw[A5 c];omega
   rw[W,ek,Yvu c];have pm:∀(x z:Nat×Ob)(A B T:AE),(x::z::(A++(B++T))).Perm (z::(A++(B++x::T))):=λx z A B T=>by
    have:=(List.perm_middle (a:=x) (l₁:=z::(A++B)) (l₂:=T)).symm;simpa using this
   refine Q [Qr k] (k+1) _ _ _ (dN (.cons _ (pm _ _ _ _ _))) (by omega) (by omega) (by simp[u (b:=true),wr]) ?_ (by simp[AF];omega) ?_
   ·rw[L];have:=Ylp (y:=y) (k:=k+1) (o2:=o2) (o1:=o1) (o0:=o0) (n:=11+2*k) (l:=[Qr k]) (by omega) (by omega) (λi N h1=>by
     grind[Nat.lt_or_ge,Qr])
    unfold Z7 at this;rw[Qu]at this;have k1:AF (11+2*k) [Qr k] (Qr k+1)=true:=by grind[AF,Qr]
    have k2:AF (11+2*k) [Qr k] (11+2*k)=true:=by simp[AF,Qr,c]
    rw[Xo,Bv k1,Xo,Bv k2,this];simp[Z7,Qu]
   ·refine TM (BV (ob:=[(2,o2),(1,o1),(0,o0)]) p (by simp;omega)) (by simp[AF];omega) (by simp[AF];omega) (by simp[AF];omega) (λ_=>by simp[AF];omega) (λi N=>?_);grind[Nat.lt_or_ge,Qr,AF]
 ·obtain rfl:k=y.AB.length:=by omega
  simp[yr];refine O _ _ _ ?_;have g3:=Zeb (y:=y) (k:=y.AB.length) (o2:=o2) (o1:=o1) (o0:=o0);have g4:=rk (y:=y) (k:=y.AB.length) (o2:=o2) (o1:=o1) (o0:=o0);have f:∀kp,AN (AF 3 kp) [(2,o2),(1,o1),(0,o0)]=true:=by simpa using p
  simp[g3,t];refine⟨rfl,?_⟩;let J:=λk=>tw y.AB.length||(y.AP.take k).any λr=>!decide (r.Ad.map At.name).Nodup
  have h9:9<=AA (Z7 y y.AB.length o2 o1 o0):=by grind[XU]
  refine EK y.AP.length (λk=>[(2,.ptr 4 []),(3,.d (.bool (J k))),(89,.d (.AH 5 (y.AP.map Ap.enc))),(90,.d (.int .i64 y.AP.length)),(91,.d (.int .i64 k))])
   (λ_=>Z7 y y.AB.length o2 o1 o0) (λ_=>True) trivial (by simp[J]) rfl ?_ ?_
  ·intro k g _ R Q O rr rp;have wr:IntKind.i64.wrap ((k:Int)+1)=(k:Int)+1:=w_i _ (by have:=q.AP;omega);have Z:=q.FH _ (DS g);have xk:(V.d y.AP[k].enc).Bk=some [.d (.AV y.AP[k].head),.d (iD y.AP[k].Am),.d (.AH 8 (y.AP[k].Ad.map At.enc)),.d (.AH 11 (y.AP[k].AY.map BH.enc)),.d (.AH 7 (y.AP[k].BC.map Bj.enc))]:=rfl;have xz:∀x:Ap,x.enc.sz=5:=λ_=>rfl;have xh:∀x:Ap,x.enc.shape=.node [.leaf,.leaf,.leaf,.leaf,.leaf]:=λ_=>rfl;have G:J (k+1)=(J k||!decide (y.AP[k].Ad.map At.name).Nodup):=by
    grind[List.take_succ_eq_append_getElem,Bool.or_assoc]
   simp[yq,g,xz,xh,xk];refine⟨rfl,X9f hP Z.Ad ?_⟩;simp;refine Q [] _ _ trivial (by simp[G,wr]) ?_ ?_ (Yba f (B9 _))
   ·simp 
   ·simp[AF];omega
  ·intro _ R O rr rp;simp[yq];refine O _ _ _ ?_;have ht:J y.AP.length=R5 y:=by
    grind[R5,List.all_eq_not_any_not]
   simp;rw[ht];refine⟨Uc (Z7 y y.AB.length o2 o1 o0),?_,?_,?_⟩
   ·simp_all[Wv,AF]
   ·rw[Y7 λ_ h=>h];have H:∀{j:Nat}{o:Ob},AD (Z7 y y.AB.length o2 o1 o0) j=some o->AF 3 (Uc (Z7 y y.AB.length o2 o1 o0)) j=false:=λh=>by simp[AF,Wv h]
    exact TM (f _) (H Y2h) (H Y2i) (H Y2j) (λg=>H (nj g)) (λi N=>H (Ya9 N))
   simp_all[Y7]
omit hP
def Ypq:Nat:=0x100075e02229207317c0232c0
def Ypr:Nat:=0x106e75e61902107f6410d0550094a1106700301d06d01f23806d01a06c01c0410d00af0b60050979f007e0170bd0160ba0a970b08413e1ba4fb1ea0140f539171cb340520130a8041c270129d851001126706705c51001006d01206cb1e00b06d00d06cb1e851120510c4e09c51000625039fab7b1e75910351039b08a5100052506e73930060be0a87dc3b00059b405405d00409105405d83010300105d0020ba0549dd04605d42fa2013221d1370460f308c0ef09699c7bb0d185ec3146201925e71c58d0571520561220d002a00512cb2b08d02900511604610708d0c202b0050970439fd9f1296
def pW:Nat:=0x18db71c58d0280150270215a555826202604c02671cb3414321d04c0060254e471cb4e0230b002205a2bb021a167c204301f53b09901f13d4b301c09901b1a500abdb05c09b75e15601a0560190d001520771901708d0146dc0470b704278fa0304d41c02f01211d4f101009900f13d01032b049a0324400e0e1a2b0bb04300d7f80786f500ba2e1888ec43817800894c
def uE:Nat:=0x105575e0a575e9b8471348
def Zok:S:=zS [(zS [(zS [] Ypr),(zS [] Ypq)] pW)] uE
def Yps:Nat:=0x10007480480b904f1b20736900450395be748048066c761419ab02d1bcc4a26585f4dd066c769971bc85f4110439860300b9c4a3e3a1a17009bc769971bc85f4dd0b9a1a0a205d0b108fc4a3e300baaf03b07e08a0370bd05c0360ba9e19ba0369ad0c800064a5a50099e1034a8103309169002f140ba70321e61b27489e159f0310eb1bb082
def pX:Nat:=0x1000bbd00b04f0211e86411a17110481ba9bb49a00904f05004e2750073fb1a42bb00618000504f0540872750090450b75ac1ab5587486673b874866709302f0c702e09166804202c0ba0090581794351a016503002b07f02a0bd0290ba009b450700004351a016502829201e3e1b090060660250910248a73ca08ab215d47110081655770f16417530211e60214bc0381656190200eb0221fb
def Ypt:Nat:=0x10009240120410268503412c0
def pY:Nat:=0x120292485101107f7137d70ba00e29217000d06d00f06c00906d00b06c0c408d00b82200c07ebe09df0ba04009b36facb0470c7047038a5372d0528c21320666a426705c0371021630370a10411533f542f08a3f50070433f51372430f311d13f04615204203207daa309da530480c304ab2b0d0a9ab1a7f8a5334c1162ef1070990c29955797eb0d002808a02952709d14300634c0270b0025188bcc34cc45
def uF:Nat:=0x10b5bbd3dcbbd09301e0c701d09101c8a70af54d70132901a07f0198a70130ba0170be1bb02701d0160910158a75f385301407e8599240a5924bf67c30d002054d05e17b01d01f05601e0d001800552a1b20274b104601a0d00198530b704217b0150170568a21770140104794a0aa90111ad09901108a6ee3eb95e0ae00d507acb045
def Zol:S:=zS [(zS [(zS [] Ypt)] pY),(zS [(zS [] Yps)] pX)] uF
def Ypu:Nat:=0x10009180249f81e87cf1a191802230481800ca6808c73b01f04f1d717c01e18001d8ed6f71bd1fe01c25300911b4341a05dbc7a42631502401814118005c04e8ed1eb2757b27b12b57b1c1b2bb017c7a4263150240181412b80052b5553c1b14f01903902b017c7a04f1d7420c1b14f01903902b01714118006104e8ed1eb2757b27b12b50455831802b001504f04247504f0134260166f121c0121806a20118ed24f01027501014104648700e18013600d38e04f0710c800c18013100b04fba527500a1419ba1b41800b975c08d52327587f0430072b508a0090152533f926d25304d01b0010494341a05db0009bb01e7cfbbc03f1e69ab4341261625c703e0eb3f2082
def Ypv:Nat:=0x100090e59f01c1e80af1a190e02e0be02726702d27604e3ea02b9de06602a0910290dd0284a904609600911b9d11931620250be01e2674720997e79de0660210910200dd01f4a91feafb4f79d11931627360f10af75301c1e601c0384071261620b60af00d01d1fb
def Ypw:Nat:=0x10008ba89d02685070b8b48ba0c416104146a00aaf800425006c84b07e39b042008822866782047089255b750611930410652670040dd0038229fd09db759e0132c3a0bd865137122479874a870e808ca9a5cd03001f13f0998810070342b102f5070040890ad00000d25eb759e01072ef0c277f5797eb08c0281bda3a5d414319f7080270b0025188bcc0b3708c45
def uG:Nat:=0x11d89183b891809303c0c703b0919600d00394a93570422bd03652007f9380d00310ba88e03780a0340914990d00324a915b98506cc4c06800a90e3dc90e0930190c78a30170dd0164a935705e2bd87901507f0140dd00e0ba0120be03680a011a0c0dd00f4a915b04300f06cc4c81a8ba0a58babf67c308c0201bd91700605e18c17601f0e117606e035038017020ab34dbaab01422f71034101d0861f401b34a01c08c01600537a03480a01904601808c0171bd15b3c801fc4c04516704991a00c056ba501502300a141b9a7b157f47917c91a00c056ba50052f057f00214f01402b009141b9a0450024f10b901004208f00f00509c00304608a41253008c9bc0e95cd3a805400d0651670481bb0e601d03825a
def Zom:S:=zS [(zS [] Ypw),(zS [] Ypv),(zS [] Ypu)] uG
def Ypy:Nat:=0x10008aa0020410140730131a18aa132c3a0dd028005137122479874a870e80c207112c04303101f02b04302d01f13f09988100503401e11608c02d07d4ec01e02a08d0291a509615c6ff43800448a4fb01304015c25802502705602608c96b024020479a6402582d91702204202113d02201e05a04e01d1a500501d507acb25e15c25801b0e11572cf2f404601709901608a01788415c04d4af0940131880140830d16cc9bd015082
def uI:Nat:=0x10558aa0a58aa09398f010046afe00e08a22311200b00d05600c0990622f00393304010460089df8530b0166
def Zoo:S:=zS [(zS [] Ypy)] uI
def Zsr:Nat:=0x126212cb2b08d01900511602a47910704384f029046311071a4102608c02502133f02404302653b04601f08c01e1bd046a1e01b08d01a0bf9f001f0c209902b0967e502308c0220969790401575360155711ff7240d113e2940510ee01671901708c0100050150114790143a70f20b401f852012096a390404380ad00123625104560508904724900e16b4129af00b1a50d304423b0578c400908d06271600805600708c00520e0e1158
def Y20:S:=zS [] Zsr
def k9:S2:=zL [] [] Ypq
def jI:=(by cbv:k9=_)
def lC:S2:=zL [] [] Ypr
def Ys3:=(by cbv:lC=_)
def kz:S2:=zL [] [lC,k9] pW
def jH:=(show kz=_ from (λ(a b:S2)=>(by cbv:zL [] [a,b] pW=_)) lC k9)
def Zq1:S2:=zL [] [kz] uE
def Zve:=(show Zq1=_ from (λa=>(by cbv:zL [] [a] uE=_)) kz)
def Z0x:w_P prog 36 2 Zok [] [] Zq1:=w_p (by kernel_rfl)
def lD:S2:=zL [] [] Yps
def jJ:=(by cbv:lD=_)
def lE:S2:=zL [] [lD] pX
def yt:=(show lE=_ from (λa=>(by cbv:zL [] [a] pX=_)) lD)
def lI:S2:=zL [] [] Ypt
def yv:=(by cbv:lI=_)
def lH:S2:=zL [] [lI] pY
def yu:=(show lH=_ from (λa=>(by cbv:zL [] [a] pY=_)) lI)
def Zq2:S2:=zL [] [lH,lE] uF
def Zvf:=(show Zq2=_ from (λ(a b:S2)=>(by cbv:zL [] [a,b] uF=_)) lH lE)
def Z0y:w_P prog 37 3 Zol [] [] Zq2:=w_p (by kernel_rfl)
def lJ:S2:=zL [] [] Ypu
def yw:=(by cbv:lJ=_)
def lK:S2:=zL [] [] Ypv
def yx:=(by cbv:lK=_)
def lL:S2:=zL [] [] Ypw
def yy:=(by cbv:lL=_)
def Zq3:S2:=zL [] [lL,lK,lJ] uG
def Zvg:=(show Zq3=_ from (λ(a b c:S2)=>(by cbv:zL [] [a,b,c] uG=_)) lL lK lJ)
def Z0z:w_P prog 38 2 Zom [] [] Zq3:=w_p (by kernel_rfl)
def lM:S2:=zL [] [] Ypy
def y4:=(by cbv:lM=_)
def Zq4:S2:=zL [] [lM] uI
def Zvi:=(show Zq4=_ from (λa=>(by cbv:zL [] [a] uI=_)) lM)
def Z01:w_P prog 40 2 Zoo [] [] Zq4:=w_p (by kernel_rfl)
def Y6u:S2:=zL [] [] Zsr
def Zby:=(by cbv:Y6u=_)
def Zje:w_P prog 109 4 Y20 [] [] Y6u:=w_p (by kernel_rfl)
theorem Yd:∀{a:AE}{k:Nat}{o:Ob},AD a k=some o->AG a k o=a
|(j,b)::r,k,o,h=>by
 simp only[AD]at h;simp only[AG];split
 next e=>simp[e]at h;subst h;rfl
 next e=>rw[Yd (by simpa[e]using h)]
theorem Xk{a:AE}{k:Nat}{o:Ob}(h:AD a k=some o):k<AA a:=by
 rcases QV k (AA a) with b|b
 ·exact b
 ·rw[Ys a k b]at h;cases h
@[simp]def one_le_succ(n:Nat):(1<=(n:Int)+1)=True:=by simp;omega
@[simp]def ex3(a b n:Nat)(c:List D):(∃E z d,(a=E/\b=z/\c=d)/\n=d.length)=(n=c.length):=by
 rw[eq_iff_iff];exact⟨λ⟨_,_,_,⟨_,_,e⟩,f⟩=>e▸f,λh=>⟨_,_,_,⟨rfl,rfl,rfl⟩,h⟩⟩
@[simp]def add11(n:Nat):n+1+1=n+2:=rfl
@[simp]def add21(n:Nat):n+2+1=n+3:=rfl
@[simp]def add31(n:Nat):n+3+1=n+4:=rfl
@[simp]def add41(n:Nat):n+4+1=n+5:=rfl
@[simp]def add51(n:Nat):n+5+1=n+6:=rfl
@[simp]def add61(n:Nat):n+6+1=n+7:=rfl
@[simp]def add71(n:Nat):n+7+1=n+8:=rfl
@[simp]def add12(n:Nat):n+1+2=n+3:=rfl
@[simp]def add22(n:Nat):n+2+2=n+4:=rfl
@[simp]def strsD_shape(l:List B):(Xg l).shape=.leaf:=by simp[Xg,D.shape]
@[simp]def strsD_sz(l:List B):(Xg l).sz=1:=by simp[Xg,D.sz]
@[simp]def strsD_agg(l:List B):(Xg l).isAgg=false:=rfl
@[simp]def intsD_shape(l:List Int):(X4 l).shape=.leaf:=by simp[X4,D.shape]
@[simp]def intsD_sz(l:List Int):(X4 l).sz=1:=by simp[X4,D.sz]
@[simp]def A4.C2(t:A4):t.enc.shape=.node [.leaf,.leaf,.leaf,.leaf,.leaf]:=rfl
@[simp]def A4.P1(t:A4):t.enc.sz=5:=by simp[A4.enc,D.sz,DZ]
@[simp]def Rc6(t:A4):t.enc.isAgg=true:=rfl
def Wb{b:Type}(f:List b->b->Option b)(a:List b)(x:b)(r:List b):Dn f a (x::r)=(f a x).bind λy=>Dn f (a++[y]) r:=rfl
def Lh{a:Type}(f:a->V){d l:List a}(b:d.length<l.length)(h:d.length<((d++l.drop d.length).map f).length):((d++l.drop d.length).map f)[d.length]=f l[d.length]:=by
 simp
def Li{b:Type}(f:b->V){d l:List b}(a:d.length<l.length)(z:b):((d++l.drop d.length).map f).set d.length (f z)=((d++[z])++l.drop (d++[z]).length).map f:=by
 rw[<-Il,List.set_append_right _ _ (B9 _),EV a,Nat.sub_self,List.set_cons_zero];simp
def FD(u:Ax):V:=.d u.enc
def Xz{p:Nat->Bool}{id E z:Nat}{e:List V}(b:Bu p e=false):∀{d:AE},AN p d=true->AN p (AG d id (.A0 E z e))=true
|[],_=>rfl
|(j,o)::r,h=>by
 have a:AN p r=true:=by cases o<;>simp[AN]at h<;>first|exact h|exact h.2
 simp only[AG];split
 ·simp[b,a]
 ·have c:=Xz (id:=id) (E:=E) (z:=z) b a;cases o<;>simp[AN]at h⊢<;>first|exact c|exact⟨h.1,c⟩
def X7{a:Type}{p:Nat->Bool}(f:a->D)(l:List a):Bu p (l.map λx=>V.d (f x))=false:=by
 induction l<;>simp_all
include hP
theorem Yt1{n id:Nat}{names:List B}{l:List Ax}(hl:l.length<=1000000){b:AE}(h4:AD b 4=some (VY n))(h6:AD b 6=some (Jm names))(G:AD b id=some (.A0 94 5 (l.map FD))){K:BQ->AE->Prop}
 (h1:∀us,Dn (L5 names) [] l=some us->K (.ret (.BU [])) (AG b id (.A0 94 5 (us.map FD))))
 (h0:Dn (L5 names) [] l=none->∀w:List Ax,K (.panic (.d Z4)) (AG b id (.A0 94 5 (w.map FD)))):
 Aa P 36 [.ptr 4 [],.sl id l.length] b K:=by
 refine Ae hP AT Z0x.1 Z0x.2 A6.nil λ_ x=>?_;have g:=Xk h4;have t:=Xk G;have n4:id≠4:=λe=>by simp_all
 have n6:id≠6:=λe=>by simp_all[Jm]
 simp[Zve];refine⟨.inr ⟨_,_,_,G,by simp⟩,?_⟩;refine Aw.go (ι:=List Ax) (λd=>[(0,.ptr 4 []),(1,.sl id l.length),(8,.d (.int .i64 l.length)),(9,.d (.int .i64 d.length))])
  (λd=>AG b id (.A0 94 5 ((d++l.drop d.length).map FD))) (λd=>d.length<=l.length/\Dn (L5 names) [] l=Dn (L5 names) d (l.drop d.length)/\∀u∈d,0<=u.Bq/\u.Bq<=1099511627776) (λd=>l.length-d.length) [] ⟨by simp,rfl,by simp⟩ (by simp) (by simp[Yd G]) ?_
 rintro d ⟨hd,k,L⟩ R Y re rr rp;have o4:∀o,AD (AG b id o) 4=some (VY n):=λo=>by simp_all
 have o6:∀o,AD (AG b id o) 6=some (Jm names):=λo=>by simp_all
 have Q:∀o,AD (AG b id o) id=some o:=λo=>by simp_all
 have y:((d++l.drop d.length).map FD).length=l.length:=by simp;omega
 by_cases a:d.length<l.length
 ·have T:IntKind.i64.wrap ((d.length:Int)+1)=(d.length:Int)+1:=w_i _ (by omega);have r:=Lh FD a;have w:=Li FD a;rw[EV a,Wb]at k;generalize hu:l[d.length]=u at k r;have ue:FD u=.d (.agg [.AV u.name,.AV u.Bo,iD u.Bf,iD u.BA,iD u.Bq]):=rfl;simp only[ue]at r;generalize N:(d++l.drop d.length).map FD=h at y r w;have ae:d.length<h.length:=by omega
  by_cases c:u.Bo=[]
  ·have e2:(h.set d.length (.d (.agg [.AV u.name,.AV u.Bo,iD u.Bf,iD d.length,iD 1])))=((d++[{u with BA:=d.length,Bq:=1}])++l.drop (d++[{u with BA:=d.length,Bq:=1}]).length).map FD:=w {u with BA:=d.length,Bq:=1};simp[jH,a,Q,r,y,c];simp[jI];have U:h.set d.length (.d (.agg [.AV u.name,.AV [],iD u.Bf,iD d.length,iD 1]))=((d++[{u with BA:=d.length,Bq:=1}])++l.drop (d++[{u with BA:=d.length,Bq:=1}]).length).map FD:=by rw[<-e2,c]
   have uR:L5 names d u=some {u with BA:=d.length,Bq:=1}:=by unfold L5;rw[Bv c]
   rw[uR]at k;refine Y [] (d++[{u with BA:=d.length,Bq:=1}]) _ _ ⟨by simp;omega,?_,?_⟩ (by simp;omega) (by simp[T]) ?_ (by simp[g,t]) ?_
   ·simp_all
   ·grind
   ·simp_all
   ·exact Xz (X7 _ _) (BV x (by simp))
  ·have Z:L5 names d u=(DA names u.Bo).bind λn=>(d[n]?).map λv=>{u with BA:=v.BA,Bq:=if 2<=u.Bf/\u.Bf<=1000/\u.Bf*v.Bq<=1099511627776 then u.Bf*v.Bq else 0}:=by unfold L5;rw[A5 c]
   simp[jH,a,Q,o4,r,y,c];have pn:((DA names u.Bo).bind λn=>(d[n]?).map λv=>{u with BA:=v.BA,Bq:=if 2<=u.Bf/\u.Bf<=1000/\u.Bf*v.Bq<=1099511627776 then u.Bf*v.Bq else 0})=none->R (.panic (.d Z4)) [] (AG b id (.A0 94 5 h)):=λe=>by
    refine rp _ _ _ ?_;rw[Z,e]at k;refine⟨[],by simp,?_,?_⟩
    ·simp ;rw[<-N];exact Xz (X7 _ _) (x _)
    ·simp ;grind
   refine Zt hP (o6 _) (λi H=>?_) (λhn=>?_)
   ·simp;refine⟨λj=>pn (by grind),λj=>?_⟩;have q:h[i]'(by omega)=FD d[i]:=by
     grind
    have ve:FD d[i]=.d (.agg [.AV d[i].name,.AV d[i].Bo,iD d[i].Bf,iD d[i].BA,iD d[i].Bq]):=rfl;rw[ve]at q;have m:=L d[i] (DS j);have ad:i<h.length:=by omega
    have J:i<l.length:=by omega
    have O:d.length≠i:=by omega
    generalize F:d[i]=v at q m ve;simp[Ys3,Q,r,y,q,a,J,O];have CG:∀f:Int,0<=f->f<=1099511627776->(if 2<=u.Bf/\u.Bf<=1000/\u.Bf*d[i].Bq<=1099511627776 then u.Bf*d[i].Bq else 0)=f->∀p,X0 p [0,1,8,9]=[(0,.ptr 4 []),(1,.sl id l.length),(8,.d (.int .i64 l.length)),(9,.d (.int .i64 (d.length+1:Nat)))]->
     R .normal p (AG b id (.A0 94 5 (h.set d.length (.d (.agg [.AV u.name,.AV u.Bo,iD u.Bf,iD d[i].BA,iD f]))))):=λf s1 s2 he p hk=>by
     have U:h.set d.length (.d (.agg [.AV u.name,.AV u.Bo,iD u.Bf,iD d[i].BA,iD f]))=((d++[{u with BA:=d[i].BA,Bq:=f}])++l.drop (d++[{u with BA:=d[i].BA,Bq:=f}]).length).map FD:=w {u with BA:=d[i].BA,Bq:=f};rw[Z,H,Dk,EW j,Mm,he]at k;refine Y [] (d++[{u with BA:=d[i].BA,Bq:=f}]) _ _ ⟨by simp;omega,?_,?_⟩ (by simp;omega) (by simpa using hk) ?_ (by simp[AF,g,t]) ?_
     ·rw[k,Dk,Dd];rfl
     ·grind
     ·rw[<-U];simp 
     ·exact Xz (X7 _ _) (BV x (by simp))
    rw[F]at CG;refine⟨λW X z=>?_,λW=>?_⟩
    ·have hb:0<=u.Bf*v.Bq/\u.Bf*v.Bq<=1099511627776000:=⟨Int.mul_nonneg (by omega) m.1,by
      have h1:u.Bf*v.Bq<=1000*v.Bq:=Int.mul_le_mul_of_nonneg_right X m.1;omega⟩
     have wm:IntKind.i64.wrap (u.Bf*v.Bq)=u.Bf*v.Bq:=w_i _ (by omega);rw[wm]at z⊢;simp[jI];exact CG _ hb.1 z (Bv ⟨W,X,z⟩) _ (by simp[T])
    ·simp[jI];refine CG 0 (by omega) (by omega) (A5 λ⟨aa,ab,ac⟩=>?_) _ (by simp[T]);grind[Int.mul_nonneg,Int.mul_le_mul_of_nonneg_right,w_i]
   ·simp;grind
 ·have s:d.length=l.length:=by omega
  simp[jH,a];refine re _ _ _ ?_;rw[s,GN,Dn]at k;have e:List.drop l.length (List.map FD l)=[]:=Im (by simp);rw[s,e,HH];refine⟨[],by simp,?_,?_⟩
  ·simp ;exact Xz (X7 _ _) (x _)
  simp_all
omit hP
def Q2:Int->List UInt8->Option Int
|n,[]=>some n
|n,c::r=>if 1099511627776<10*n+(c.toNat-48) then none else Q2 (10*n+(c.toNat-48)) r
def X58{s:List UInt8}{k:Nat}{n:Int}(h:k<s.length):Q2 n (s.drop k)=if 1099511627776<10*n+((s[k]?.getD 0).toNat-48) then none else Q2 (10*n+((s[k]?.getD 0).toNat-48)) (s.drop (k+1)):=by
 rw[EV h];simp[Q2,h]
include hP
omit hP
def TD(a:D)(l:List Ay):Prop:=a=BB l\/a=.Ah/\l=[]
section
variable {a:D} {l:List Ay} (h:TD a l)
include h
theorem TD.len:Lv (.d a)=.d (.int .i64 l.length):=by rcases h with rfl|⟨rfl,rfl⟩<;>simp[BB]
theorem TD.DO(b:AE):M5 b (.d a)=True:=by rcases h with rfl|⟨rfl,rfl⟩<;>simp[BB]
theorem TD.H4(b:AE)(k:IntKind)(i:Int):Ls b 4 (.d a) (.d (.int k i))=(0<=i/\i<l.length):=by
 rcases h with rfl|⟨rfl,rfl⟩
 ·simp[BB]
 ·simp[Ls,Hl]
theorem TD.G5{k:IntKind}{i:Nat}(b:i<l.length):Lt 4 (.d a) (.d (.int k i))=.d (.CD (l[i]?.getD default).enc):=by
 rcases h with rfl|⟨rfl,rfl⟩
 ·simp[BB,b]
 ·simp at b
end
def bB(s t:Ay):Bool:=decide (s.kind=t.kind)&&decide (s.text=t.text)&&decide (s.n=t.n)
def L1:List Ay->List Ay->Bool
|[],[]=>true
|s::l,t::m=>bB s t&&L1 l m
|_,_=>false
def Wh(c:UInt8):Bool:=W7 c.toNat
def Yj(c:UInt8):Bool:=Lg c.toNat
def Kq(c:UInt8):Bool:=R4 c.toNat
def Wy(c:UInt8):Bool:=OO c.toNat
def Ep(c:UInt8):Bool:=Ic c.toNat
def Gy(c:UInt8):Bool:=c != 10
inductive St where
|skip (n:Nat)
|JN (k:Int) (t:List UInt8) (m:Int) (n:Nat)
|B0
def I8(t:List UInt8):Option Int:=match Q2 0 t with
|none=>none
|some n=>if t.length=1\/t.headD 0≠48 then some n else none
def ET(c:UInt8)(r:List UInt8):St:=
 if Kq c then .skip 0
 else if c=47/\r.head? = some 47 then .skip (r.takeWhile Gy).length
 else if Wh c then
  if (r.takeWhile Wy).length+1<=32 then .JN 1 (c::r.takeWhile Wy) 0 (r.takeWhile Wy).length else .B0
 else if Yj c then
  match I8 (c::r.takeWhile Yj) with
  |some n=>.JN 2 [] n (r.takeWhile Yj).length
  |none=>.B0
 else if Ep c then .JN 3 [c] 0 0 else .B0
inductive Lc where
|ok (l:List Ay)
|B0 (cZ:Nat)
def OV(t:Ay):Lc->Lc
|.ok l=>.ok (t::l)
|.B0 e=>.B0 e
def MC(l:List Ay):Lc->Lc
|.ok a=>.ok (l++a)
|.B0 e=>.B0 e
def Jl:List UInt8->Nat->Lc
|[],_=>.ok []
|c::r,a=>match ET c r with
 |.skip n=>Jl (r.drop n) (a+n+1)
 |.JN k t m n=>OV ⟨k,t,m,a⟩ (Jl (r.drop n) (a+n+1))
 |.B0=>.B0 a
termination_by l=>l.length
decreasing_by all_goals (simp only[List.length_drop,Ip];omega)
def SP:Lc->V
|.ok l=>.BU [.d (BB l),.d (.int .i64 0),.d (.int .i64 0)]
|.B0 e=>.BU [.d .Ah,.d (.int .i64 e),.d (.int .i64 90)]
def NK(s:List UInt8):V:=if s.length > 65536 then .BU [.d .Ah,.d (.int .i64 0),.d (.int .i64 2)] else SP (Jl s 0)
def Yj3(r:Lc):MC [] r=r:=by cases r<;>rfl
def gK(l:List Ay)(t:Ay)(r:Lc):MC l (OV t r)=MC (l++[t]) r:=by cases r<;>simp[MC,OV]
def tw(p:UInt8->Bool)(s:List UInt8)(j:Nat):Nat:=((s.drop j).takeWhile p).length
def Znb{p:UInt8->Bool}{s:List UInt8}{j:Nat}(h:s.length<=j):tw p s j=0:=by simp[tw,Im h]
theorem qR{p:UInt8->Bool}{s:List UInt8}{j:Nat}(h:j<s.length)(a:p (s[j]?.getD 0)=true):tw p s j=tw p s (j+1)+1:=by
 simp[h]at a;unfold tw;rw[EV h,Mk,Bv a];rfl
theorem Znc{p:UInt8->Bool}{s:List UInt8}{j:Nat}(h:j<s.length)(a:p (s[j]?.getD 0)=false):tw p s j=0:=by
 simp[h]at a;unfold tw;rw[EV h,Mk,a];rfl
def UZ(p:UInt8->Bool)(s:List UInt8)(j:Nat)(h:j<=s.length):j+tw p s j<=s.length:=by
 have:=(List.takeWhile_sublist p (l:=s.drop j)).length_le;simp[tw]at this⊢;omega
theorem Z9(p:UInt8->Bool):∀l:List UInt8,l.takeWhile p=l.take (l.takeWhile p).length
|[]=>rfl
|c::r=>by
 simp only[Mk];split
 ·simp;exact Z9 p r
 ·rfl
theorem You{p:UInt8->Bool}{x:UInt8}:∀{l:List UInt8},x∈l.takeWhile p->p x=true
|c::r,h=>by
 rw[Mk]at h;split at h
 ·rename_i a;rcases Fb.mp h with rfl|h
  ·exact a
  ·exact You h
 ·cases h
theorem TJ{s:List UInt8}{i:Nat}(h:i<s.length):s.drop i=(s[i]?.getD 0)::s.drop (i+1):=by
 rw[EV h];simp[h]
def Yzh(p:UInt8->Bool){s:List UInt8}{i:Nat}(h:i<s.length)(b:p (s[i]?.getD 0)=true):
 (s.take (i+tw p s i)).drop i=(s[i]?.getD 0)::(s.drop (i+1)).takeWhile p/\tw p s i=((s.drop (i+1)).takeWhile p).length+1:=by
 have a:tw p s i=((s.drop (i+1)).takeWhile p).length+1:=qR h b;refine⟨?_,a⟩;rw[vN,Nat.add_sub_cancel_left,a,TJ h,List.take_succ_cons,<-Z9]
def Yl2{s:List UInt8}{i a:Nat}(h:s.length<=i):Jl (s.drop i) a=.ok []:=by
 rw[Im h,Jl]
def Ywm{s:List UInt8}{i:Nat}(h:i<s.length):Jl (s.drop i) i=match ET (s[i]?.getD 0) (s.drop (i+1)) with
|.skip n=>Jl (s.drop (i+n+1)) (i+n+1)
|.JN k t m n=>OV ⟨k,t,m,i⟩ (Jl (s.drop (i+n+1)) (i+n+1))
|.B0=>.B0 i:=by
 rw[TJ h,Jl];cases ET (s[i]?.getD 0) (s.drop (i+1)) with
 |B0=>rfl
 |skip n=>simp only[List.drop_drop];congr 2;omega
 |JN k t m n=>simp only[List.drop_drop];congr 3;omega
def Xrz{s:List UInt8}{i:Nat}:(s.drop i).head? = s[i]?:=by simp[List.head?_drop]
section
inductive R(α:Type) where
|ok (a:α) (ts:List Ay)
|B0 (ts:List Ay) (e:Int)
abbrev M(α:Type):=List Ay->R α
def M.bind{b c:Type}(m:M b)(f:b->M c):M c:=λd=>match m d with
|.ok a ts'=>f a ts'
|.B0 ts' e=>.B0 ts' e
def M.pure{b:Type}(a:b):M b:=λc=>.ok a c
instance:Monad M where
 pure:=M.pure
 bind:=M.bind
section
variable {α β:Type}
@[simp]def Yy7(a:α)(b:List Ay):(pure a:M α) b=.ok a b:=rfl
theorem Xh(m:M α)(f:α->M β)(b:List Ay):(m >>= f) b=match m b with
|.ok a ts'=>f a ts'
|.B0 ts' e=>.B0 ts' e:=rfl
def Yc{b:Type}(m:M α)(f:α->M β)(g:β->M b):((m >>= f) >>= g)=(m >>= λa=>f a >>= g):=by
 grind[Xh]
def Zi(a:α)(f:α->M β):((pure a:M α) >>= f)=f a:=rfl
def Ex(c:List Ay->Bool)(a b:M α):M α:=λd=>if c d then a d else b d
def fail(e:Int):M α:=λa=>.B0 a e
end
def Xq(k:Int)(t:B):List Ay->Bool
|[]=>false
|x::_=>decide (x.kind=k)&&(decide (t=[])||x.text==t)
def JA(k:Int)(t:B):M Ay:=λa=>if Xq k t a then .ok (a.headD default) a.tail else .B0 a 100
def Yu:M B:=do let t <-JA 1 [];pure t.text
def Zc(t:B):M Unit:=do let _ <-JA 1 t;pure ()
def Ym(t:B):M Unit:=do let _ <-JA 3 t;pure ()
def X8(k:Int)(t:B):M Bool:=λa=>if Xq k t a then .ok true a.tail else .ok false a
def Yi(c b:Int):M Int:=λa=>if Xq 2 [] a&&decide (c<=(a.headD default).n)&&decide ((a.headD default).n<=b) then .ok (a.headD default).n a.tail else .B0 a 100
def Xlu{b a n:Int}{c ts':List Ay}(h:Yi b a c=.ok n ts'):b<=n/\n<=a:=by
 simp only[Yi]at h;grind
def V1(a b:Nat):M Unit:=λc=>if a=b then .B0 c 2 else .ok () c
def X9{e:Type}(b:List Ay->Bool)(c:M e):Nat->M (List e)
|0=>λd=>if b d then .B0 d 2 else .ok [] d
|n+1=>λd=>if b d then (do let a <-c;let l <-X9 b c n;pure (a::l):M (List e)) d else .ok [] d
inductive Cr where
|num (n:Int)
|path (a b:B)
structure DC where
 name:B
 kind:B
 Bo:Option (B×B)
structure DJ where
 op:Int
 a:Cr
 b:Cr
structure DK where
 path:B
 BZ:Cr
structure DE where
 B1:B
 Aq:B
 shift:Int
structure Fz where
 name:B
 path:B
inductive B6 where
|num (lo hi:Int) (Bo:Option B)
|Hy
|Cz
|Dq (l:List B)
structure Field where
 name:B
 type:B6
 AQ:List Int
structure Bx where
 names:List B
 name:B
structure CK where
 name:B
 Bo:Option (Int×B)
structure Be where
 name:B
 Dy:B
 BL:Int
 AL:List Field
 AU:List Bx
structure Cv where
 head:B
 Ad:List DC
 AY:List DJ
 BC:List DK
structure Bh where
 Aq:B
 B1:B
 Ag:List DE
structure Bi where
 name:B
 CC:List Fz
 most:Int
structure Bm where
 AR:List B
 Ac:List CK
 AB:List Be
 AP:List Cv
 AJ:List Bh
 AI:List Bi
def Cr.enc:Cr->D
|.num n=>.agg [.AV [],.AV [],iD (-1),iD 0,iD n]
|.path a b=>.agg [.AV a,.AV b,iD 0,iD 0,iD 0]
def DC.enc(f:DC):D:=.agg [.AV f.name,.AV f.kind,iD 0,match f.Bo with|none=>.agg [.AV [],.AV [],iD 0,iD 0,iD 0] |some x=>.agg [.AV x.1,.AV x.2,iD 0,iD 0,iD 0]]
def DJ.enc(a:DJ):D:=.agg [iD a.op,a.a.enc,a.b.enc]
def DK.enc(s:DK):D:=.agg [.AV s.path,iD 0,s.BZ.enc]
def DE.enc(m:DE):D:=.agg [.AV m.B1,.AV m.Aq,iD 0,iD 0,iD m.shift]
def Fz.enc(r:Fz):D:=.agg [.AV r.name,.AV r.path,iD 0,iD 0]
def B6.enc:B6->D
|.num c b a=>.agg [iD 1,iD c,iD b,.AV (a.getD []),iD 0,.Ah]
|.Hy=>.agg [iD 2,iD 0,iD 1023,.AV [],iD 0,.Ah]
|.Cz=>.agg [iD 3,iD 0,iD 4095,.AV [],iD 0,.Ah]
|.Dq l=>.agg [iD 4,iD 0,iD (l.length-1),.AV [],iD 0,Xg l]
def Field.enc(f:Field):D:=.agg [.AV f.name,f.type.enc,.agg (f.AQ.map iD)]
def Bx.enc(d:Bx):D:=.agg [Xg d.names,.AV d.name,.Ah,iD 0]
def CK.enc(u:CK):D:=match u.Bo with
|none=>.agg [.AV u.name,.AV [],iD 0,iD 0,iD 0]
|some x=>.agg [.AV u.name,.AV x.2,iD x.1,iD 0,iD 0]
def Be.enc(s:Be):D:=.agg [.AV s.name,.AV s.Dy,iD 0,iD s.BL,.AH 11 (s.AL.map Field.enc),.AH 4 (s.AU.map Bx.enc)]
def Cv.enc(r:Cv):D:=.agg [.AV r.head,iD 0,.AH 8 (r.Ad.map DC.enc),.AH 11 (r.AY.map DJ.enc),.AH 7 (r.BC.map DK.enc)]
def Bh.enc(c:Bh):D:=.agg [.AV c.Aq,.AV c.B1,iD 0,iD 0,.AH 5 (c.Ag.map DE.enc)]
def Bi.enc(p:Bi):D:=.agg [.AV p.name,.AH 4 (p.CC.map Fz.enc),iD p.most]
def OP:M (B×B):=do let a <-Yu;Ym [46];let b <-Yu;pure (a,b)
def Hq:M Cr:=λa=>if Xq 2 [] a then (do let n <-Yi 0 1048576;pure (.num n):M Cr) a else (do let x <-OP;pure (.path x.1 x.2):M Cr) a
def Hk:M DC:=do
 Zc [102,114,111,109]
 let a <-Yu;let b <-Yu;let c <-X8 1 [111,102]
 if c then do let x <-OP;Ym [59];pure ⟨a,b,some x⟩ else do Ym [59];pure ⟨a,b,none⟩
def QB:M Int:=do
 let b <-X8 3 [61]
 if b then pure 1 else do
  let b <-X8 3 [60]
  if b then do
   let b <-X8 3 [61]
   pure (if b then 3 else 2)
  else do Ym [33];Ym [61];pure 4
def Kw:M DJ:=do
 Zc [119,104,101,114,101]
 let a <-Hq;let o <-QB;let b <-Hq
 Ym [59]
 pure ⟨o,a,b⟩
def K7:M DK:=do Zc [115,101,116];let a <-Yu;Ym [61];let t <-Hq;Ym [59];pure ⟨a,t⟩
def PY:M Int:=do
 let b <-X8 3 [43]
 if b then Yi 0 1048576 else do
  let b <-X8 3 [45]
  if b then do let n <-Yi 0 1048576;pure (-n) else pure 0
def I4:M DE:=do let a <-Yu;Ym [61];let b <-Yu;let n <-PY;Ym [59];pure ⟨a,b,n⟩
def K6:M Fz:=do Zc [109,97,121];let x <-OP;Ym [59];pure ⟨x.1,x.2⟩
def GQ:Nat->M (List Int)
|0=>pure []
|n+1=>do let a <-Yi 0 9;let l <-GQ n;pure (a::l)
def Uj:M (List Int):=GQ 4
def Qq(b:Nat):M (List B):=do let a <-Yu;let l <-X9 (Xq 3 [44]) (do Ym [44];Yu) (b-1);pure (a::l)
def Ky:M B6:=do
 let b <-X8 1 [110,117,109,98,101,114]
 if b then do
  let c <-Yi 0 1048576
  Zc [116,111]
  let a <-Yi 0 1048576;let b <-X8 1 [105,110]
  if b then do let n <-Yu;pure (.num c a (some n)) else pure (.num c a none)
 else do
  let b <-X8 1 [100,97,116,101]
  if b then pure .Hy else do
   let b <-X8 1 [112,101,114,115,111,110]
   if b then pure .Cz else do
    let b <-X8 1 [99,104,111,105,99,101]
    if b then do let l <-Qq 16;pure (.Dq l) else fail 100
def Mr:M Field:=do Zc [102,105,101,108,100];let n <-Yu;Ym [58];let t <-Ky;let w <-Uj;Ym [59];pure ⟨n,t,w⟩
def PD:M Bx:=do Zc [100,101,112,101,110,100];let l <-Qq 11;Zc [103,105,118,101];let n <-Yu;Ym [59];pure ⟨l,n⟩
def PF(s:Bm):M Bm:=do
 V1 s.AR.length 8
 Zc [105,115,115,117,101,114]
 let a <-Yu
 Ym [59]
 pure {s with AR:=s.AR++[a] }
def PA(s:Bm):M Bm:=do
 V1 s.Ac.length 16
 Zc [117,110,105,116]
 let a <-Yu;let b <-X8 3 [61]
 if b then do
  let n <-Yi 2 1000;let o <-Yu
  Ym [59]
  pure {s with Ac:=s.Ac++[⟨a,some (n,o)⟩] }
 else do
  Ym [59]
  pure {s with Ac:=s.Ac++[⟨a,none⟩] }
def I5:Nat->Be->M Be
|0,_=>fail 0
|n+1,s=>do
 let b <-X8 3 [125]
 if b then pure s else (Ex (Xq 1 [102,105,101,108,100]) (do V1 s.AL.length 12;let f <-Mr;I5 n {s with AL:=s.AL++[f] }) (Ex (Xq 1 [100,101,112,101,110,100]) (do V1 s.AU.length 8;let d <-PD;I5 n {s with AU:=s.AU++[d] }) (fail 100)))
def PG(s:Bm):M Bm:=do
 V1 s.AB.length 16
 Zc [115,99,104,101,109,97]
 let a <-Yu
 Zc [98,121]
 let b <-Yu
 Zc [118,101,114,115,105,111,110]
 let v <-Yi 1 255
 Zc [115,101,108,102]
 let w <-Uj
 Ym [123]
 let x <-I5 21 ⟨a,b,v,[⟨[115,101,108,102],.Cz,w⟩],[]⟩
 pure {s with AB:=s.AB++[x] }
def O9(s:Bm):M Bm:=do
 V1 s.AP.length 16
 Zc [100,101,114,105,118,101]
 let a <-Yu
 Ym [123]
 Ex (Xq 1 [102,114,111,109]) (do
  let f <-X9 (Xq 1 [102,114,111,109]) Hk 3;let w <-X9 (Xq 1 [119,104,101,114,101]) Kw 8;let t <-X9 (Xq 1 [115,101,116]) K7 11
  Ym [125]
  pure {s with AP:=s.AP++[⟨a,f,w,t⟩] }) (fail 100)
def Jc(s:Bm):M Bm:=do
 V1 s.AJ.length 16
 Zc [99,111,110,118,101,114,116]
 let a <-Yu
 Zc [116,111]
 let b <-Yu
 Ym [123]
 let l <-X9 (Xq 1 []) I4 11
 Ym [125]
 pure {s with AJ:=s.AJ++[⟨a,b,l⟩] }
def Jt(s:Bm):M Bm:=do
 V1 s.AI.length 8
 Zc [112,117,114,112,111,115,101]
 let a <-Yu
 Ym [123]
 let l <-X9 (Xq 1 [109,97,121]) K6 32
 Zc [109,111,115,116]
 let n <-Yi 0 32
 Ym [59]
 Ym [125]
 pure {s with AI:=s.AI++[⟨a,l,n⟩] }
def VF(a:Int):List Ay->Int
|[]=>a
|x::_=>x.cZ
def OH(a:List Ay)(e:Int):Int:=match a with
|[]=>100
|_=>e
abbrev pv(ts:List Ay)(en:Int)(S:V):V:=.agg [.d (.AH 4 (ts.map Ay.enc)),.d (.int .i64 en),S]
abbrev HN(en:Int)(ts:List Ay)(e:Int):D:=.iface 59 (.agg [.int .i64 (VF en ts),.int .i64 (OH ts e)])
abbrev pb(ts:List Ay)(en:Int)(S:V):Ob:=.box 65 (pv ts en S)
def PK{g:Type}(K:BQ->AE->Prop)(f:AE)(p:Nat)(c:Int)(S:V)(v:g->V):R g->Prop
|.ok a b=>K (.ret (v a)) (AG f p (pb b c S))
|.B0 b e=>K (.panic (.d (HN c b e))) (AG f p (pb b c S))
section
variable {α β:Type} {K:BQ->AE->Prop} {ob:AE} {p:Nat} {en:Int} {S:V} {v:α->V}
@[simp]def PK_ok(a:α)(b:List Ay):PK K ob p en S v (.ok a b)=K (.ret (v a)) (AG ob p (pb b en S)):=rfl
@[simp]def PK_err(e:Int)(a:List Ay):PK K ob p en S v (.B0 a e)=K (.panic (.d (HN en a e))) (AG ob p (pb a en S)):=rfl
def PK.bind{g:BQ->AE->Prop}{b:AE}{i:β->V}{m:M α}{f:α->M β}{c:List Ay}(h:PK K ob p en S i ((m >>= f) c))
 (j:∀ts' e,K (.panic (.d (HN en ts' e))) (AG ob p (pb ts' en S))->g (.panic (.d (HN en ts' e))) (AG b p (pb ts' en S)))
 (k:∀a ts',m c=.ok a ts'->PK K ob p en S i (f a ts')->g (.ret (v a)) (AG b p (pb ts' en S))):PK g b p en S v (m c):=by
 rw[Xh]at h;cases l:m c<;>simp_all
end
def PK.tail{j:Type}{K g:BQ->AE->Prop}{i c:AE}{p:Nat}{b:Int}{S:V}{v:j->V}{k:j->V}{m:M j}{f:List Ay}(h:PK K i p b S k (m f))
 (l:∀ts' e,K (.panic (.d (HN b ts' e))) (AG i p (pb ts' b S))->g (.panic (.d (HN b ts' e))) (AG c p (pb ts' b S)))
 (n:∀a ts',m f=.ok a ts'->K (.ret (k a)) (AG i p (pb ts' b S))->g (.ret (v a)) (AG c p (pb ts' b S))):PK g c p b S v (m f):=by
 cases o:m f<;>simp_all
def Vw{q:Nat->Bool}:∀{ob:AE}{k E:Nat}{v:V},AN q ob=true->AD ob k=some (.box E v)->V.Bg q v=false
|(j,o)::r,k,E,v,h,a=>by
 simp only[AD]at a;split at a
 ·simp_all
 ·refine Vw (ob:=r) ?_ a;cases o<;>simp_all[AN]
def CZ(n:Nat):((n:Int)+1=0)=False:=by simp;omega
def CF(n:Nat):(0<(n:Int)+1)=True:=by simp
attribute [local simp] CZ CF
def Xc{a b:AE}{p:Nat}{k ts':List Ay}{c:Int}{S:V}(g:AD a p=some (pb k c S))(e:∀j,AN (AF (AA a) j) a=true){K:AE->Prop}{f:List V}(h:K (AG a p (pb ts' c S)))(i:Bu (AF (AA a) []) f=false)(d:Xo (AF (AA a) []) b=AG a p (pb ts' c S)):Yh (AA a) K f b:=by
 refine⟨[],i,?_,?_⟩
 ·rw[d];refine Ao _ _ _ _ _ (e _) ?_;have:=Vw (e []) g;simpa  using this
 ·rw[d];exact h
@[simp]def Cr.C2(t:Cr):t.enc.shape=.node [.leaf,.leaf,.leaf,.leaf,.leaf]:=by cases t<;>simp[Cr.enc,D.shape]
@[simp]def B6.C2(t:B6):t.enc.shape=.node [.leaf,.leaf,.leaf,.leaf,.leaf,.leaf]:=by cases t<;>simp[B6.enc,Xg,D.shape]
def x7:∀{n:Nat}{c ts':List Ay}{l:List Int},GQ n c=.ok l ts'->l.length=n
|0,c,ts',l,h=>by cases h;rfl
|n+1,c,ts',l,h=>by
 simp only[GQ,Xh]at h;cases d:Yi 0 9 c with
 |B0 a b=>rw[d]at h;cases h
 |ok a f=>
  rw[d]at h;cases e:GQ n f with
  |B0 a b=>simp_all
  |ok g i=>
   simp only[e]at h;cases h;simp[x7 e]
def eA{e ts':List Ay}{l:List Int}(h:Uj e=.ok l ts'):∃a b c d,l=[a,b,c,d]:=by
 have:=x7 h
 match l,this with
 |[a,b,c,d],_=>simp
def fH{i:Type}{c:List Ay->Bool}{d:M i}:∀{n:Nat}{e ts':List Ay}{l:List i},X9 c d n e=.ok l ts'->l.length<=n
|0,e,ts',l,h=>by
 grind[X9]
|n+1,e,ts',l,h=>by
 simp only[X9]at h;split at h
 ·simp only[Xh]at h;cases f:d e with
  |B0 a b=>rw[f]at h;cases h
  |ok a j=>
   rw[f]at h;cases g:X9 c d n j with
   |B0 a b=>simp_all
   |ok k m=>
    simp only[g]at h;cases h;have:=fH g;simpa using this
 ·cases h;simp
def Xvj{n:Nat}{e ts':List Ay}{l:List B}(h:Qq n e=.ok l ts'):1<=l.length/\l.length<=n-1+1:=by
 simp only[Qq,Xh]at h;cases c:Yu e with
 |B0 a b=>rw[c]at h;cases h
 |ok a f=>
  rw[c]at h;cases d:X9 (Xq 3 [44]) (do Ym [44];Yu) (n-1) f with
  |B0 a b=>simp_all
  |ok g i=>
   simp only[d]at h;cases h;have:=fH d;simpa using this
@[simp]def DC.C2(f:DC):f.enc.shape=.node [.leaf,.leaf,.leaf,.node [.leaf,.leaf,.leaf,.leaf,.leaf]]:=by
 obtain⟨a,b,c⟩:=f;cases c<;>simp[DC.enc,D.shape]
@[simp]def DJ.C2(f:DJ):f.enc.shape=.node [.leaf,.node [.leaf,.leaf,.leaf,.leaf,.leaf],.node [.leaf,.leaf,.leaf,.leaf,.leaf]]:=by simp[DJ.enc]
@[simp]def DK.C2(f:DK):f.enc.shape=.node [.leaf,.leaf,.node [.leaf,.leaf,.leaf,.leaf,.leaf]]:=by simp[DK.enc]
@[simp]def DE.C2(f:DE):f.enc.shape=.node [.leaf,.leaf,.leaf,.leaf,.leaf]:=by simp[DE.enc]
@[simp]def Fz.C2(f:Fz):f.enc.shape=.node [.leaf,.leaf,.leaf,.leaf]:=by simp[Fz.enc]
abbrev Zn(s:Bm):V:=.agg [.sl 5 s.AR.length,.sl 6 s.Ac.length,.sl 7 s.AB.length,.sl 8 s.AP.length,.sl 9 s.AJ.length,.sl 10 s.AI.length]
abbrev Zd2:Ob:=.map [(.AV [105,115,115,117,101,114],.fn 20 [] []),(.AV [117,110,105,116],.fn 21 [] []),(.AV [115,99,104,101,109,97],.fn 22 [] []),(.AV [100,101,114,105,118,101],.fn 23 [] []),(.AV [99,111,110,118,101,114,116],.fn 24 [] []),(.AV [112,117,114,112,111,115,101],.fn 25 [] [])]
abbrev Ri:D:=.agg [.Ah,.Ah,.Ah,.Ah,.Ah,.Ah]
abbrev GW(en:Int)(ts:List Ay)(s:Bm):AE:=
 [(10,.BO 83 3 (s.AI.map Bi.enc)),(9,.BO 80 5 (s.AJ.map Bh.enc)),(8,.BO 77 5 (s.AP.map Cv.enc)),(7,.BO 72 6 (s.AB.map Be.enc)),(6,.BO 94 5 (s.Ac.map CK.enc)),(5,.BO 9 1 (s.AR.map D.AV)),
  (4,pb ts en (Zn s)),(3,Zd2),(2,.box 31 (.d (.int .i64 0))),(1,.box 3 (.d (.int .i64 0))),(0,.box 30 (.d Ri))]
def PS(K:BQ->AE->Prop)(b:Int):R Bm->Prop
|.ok s a=>K (.ret (.BU [])) (GW b a s)
|.B0 a e=>∀s,K (.panic (.d (HN b a e))) (GW b a s)
def PS.bind{j:Type}{K i:BQ->AE->Prop}{b:Int}{S:V}{c:AE}{v:j->V}{m:M j}{f:j->M Bm}{g:List Ay}(h:PS K b ((m >>= f) g))
 (k:∀ts' e,(∀s,K (.panic (.d (HN b ts' e))) (GW b ts' s))->i (.panic (.d (HN b ts' e))) (AG c 4 (pb ts' b S)))
 (n:∀a ts',m g=.ok a ts'->PS K b (f a ts')->i (.ret (v a)) (AG c 4 (pb ts' b S))):PK i c 4 b S v (m g):=by
 rw[Xh]at h;cases l:m g with
 |ok a ts'=>simp_all
 |B0 ts' e=>rw[l]at h;exact k ts' e h
def Xt{b:Int}{c:List Ay}{s:Bm}{K:AE->Prop}{d:List V}{a:AE}(h:K (GW b c s))(e:Bu (AF 11 []) d=false)(f:Xo (AF 11 []) a=GW b c s):Yh 11 K d a:=by
 refine⟨[],e,?_,?_⟩<;>simp_all[AF,Zp]
structure JO(s:Bm):Prop where
 AR:s.AR.length<=8
 Ac:s.Ac.length<=16
 AB:s.AB.length<=16
 AP:s.AP.length<=16
 AJ:s.AJ.length<=16
 AI:s.AI.length<=8
attribute [local simp] CZ CF
section
variable {P:BE} (hPp:P.p=prog) {ob:AE} {p:Nat} {ts:List Ay} {en:Int} {S:V} (hS:Cb [S]=none) (hp:AD ob p=some (pb ts en S)) {K:BQ->AE->Prop}
include hPp hS hp
theorem U5(e:Int)(h:K (.panic (.d (HN en ts e))) (AG ob p (pb ts en S))):Aa P 26 [.ptr p [],.d (.int .i64 e)] ob K:=by
 refine Ae hPp AT Z0u.1 Z0u.2 A6.nil λ_ a=>?_;cases ts with
 |nil=>
  simp[Znl,hp];exact Xc hp a (by simpa[HN,VF,OH]using h) (by simp) (by simp[Yd hp])
 |cons t ts=>
  simp[Znl,Ys1,hp,Ay.enc];exact Xc hp a (by simpa[HN,VF,OH]using h) (by simp) (by simp[Yd hp])
theorem Mu(k:Int)(t:B)(h:K (.ret (.d (.bool (Xq k t ts)))) (AG ob p (pb ts en S))):Aa P 74 [.ptr p [],.d (.int .i64 k),.d (.AV t)] ob K:=by
 refine Ae hPp AT Z1t.1 Z1t.2 A6.nil λ_ a=>?_;cases ts with
 |nil=>
  simp[Zno,hp];exact Xc hp a (by simpa[Xq]using h) (by simp) (by simp[Yd hp])
 |cons x ts=>
  simp[Zno,hp,Ay.enc];exact Xc hp a (by simpa[Xq]using h) (by simp) (by simp[Yd hp])
theorem XC(k:Int)(t:B)(h:PK K ob p en S (λt=>.d t.enc) (JA k t ts)):Aa P 164 [.ptr p [],.d (.int .i64 k),.d (.AV t)] ob K:=by
 refine Ae hPp AT Zkn.1 Zkn.2 A6.nil λ_ b=>?_;simp[Zcg];refine Mu hPp hS (ts:=ts) (en:=en) (S:=S) (by simp[hp]) _ _ ?_;simp[hp];refine⟨λa=>?_,λa=>?_⟩
 ·simp[JA,a]at h;refine U5 hPp hS (ts:=ts) (en:=en) (S:=S) (by simp[hp]) _ ?_;exact Xc hp b h (by simp) (by simp[hp])
 ·cases ts with
  |nil=>simp[Xq]at a
  |cons x ts=>
   simp[JA,a]at h;simp[Yje,hp,hS,Ay.enc];exact Xc hp b h (by simp) (by simp )
theorem Z3(h:PK K ob p en S (λt=>.d (.AV t)) (Yu ts)):Aa P 69 [.ptr p []] ob K:=by
 refine Ae hPp AT Z1o.1 Z1o.2 A6.nil λ_ b=>?_;simp[Zv2];refine XC hPp hS hp _ _ ?_;refine PK.bind h (λts' e h=>?_) (λa ts' c h=>?_)
 ·exact Xc hp b h (by simp) (by simp )
 ·simp[Ay.enc];exact Xc hp b h (by simp) (by simp )
theorem W1(t:B)(h:PK K ob p en S (λ_=>.BU []) (Zc t ts)):Aa P 68 [.ptr p [],.d (.AV t)] ob K:=by
 refine Ae hPp AT Z1n.1 Z1n.2 A6.nil λ_ b=>?_;simp[Zv1];refine XC hPp hS hp _ _ ?_;refine PK.bind h (λts' e h=>?_) (λa ts' c h=>?_)
 ·exact Xc hp b h (by simp) (by simp )
 ·exact Xc hp b h (by simp) (by simp )
theorem Y1(t:B)(h:PK K ob p en S (λ_=>.BU []) (Ym t ts)):Aa P 70 [.ptr p [],.d (.AV t)] ob K:=by
 refine Ae hPp AT Z1p.1 Z1p.2 A6.nil λ_ b=>?_;simp[Zv3];refine XC hPp hS hp _ _ ?_;refine PK.bind h (λts' e h=>?_) (λa ts' c h=>?_)
 ·exact Xc hp b h (by simp) (by simp )
 ·exact Xc hp b h (by simp) (by simp )
theorem Z2(k:Int)(t:B)(h:PK K ob p en S (λb=>.d (.bool b)) (X8 k t ts)):Aa P 71 [.ptr p [],.d (.int .i64 k),.d (.AV t)] ob K:=by
 refine Ae hPp AT Z1q.1 Z1q.2 A6.nil λ_ c=>?_;simp[Zv4];refine Mu hPp hS hp _ _ ?_;simp[hp];refine⟨λa=>?_,λa=>?_⟩
 ·simp[X8,a]at h;exact Xc hp c h (by simp) (by simp )
 ·cases ts with
  |nil=>simp[Xq]at a
  |cons x ts=>
   simp[X8,a]at h;simp[hS];exact Xc hp c h (by simp) (by simp )
theorem N9(a b:Nat)(h:PK K ob p en S (λ_=>.BU []) (V1 a b ts)):Aa P 67 [.ptr p [],.d (.int .i64 a),.d (.int .i64 b)] ob K:=by
 refine Ae hPp AT Z1m.1 Z1m.2 A6.nil λ_ c=>?_;simp[Zv0];refine⟨λe=>?_,λe=>?_⟩
 ·simp[V1,show a=b by omega]at h;refine U5 hPp hS hp _ ?_;exact Xc hp c h (by simp) (by simp )
 ·simp[V1,show a≠b by omega]at h;exact Xc hp c h (by simp) (by simp[Yd hp])
end
attribute [local simp] CZ CF
attribute [local simp ↓] ql qn qo qi qh qj qk qm wg zy we wh wc zt zu zr zx zw qq qp qy qz zn zb qx qr zo qw qv qt zd zi zf zj zl zm wo wj wq wp qb qa qd qc qe qg qf zq zp
structure Ez(P:BE):Prop where
 AX:B5 P 0 (.agg [.int .i64 2,.int .i64 1000])
 AO:B5 P 1 (.agg [.int .i64 1,.int .i64 255])
 As:B5 P 2 (.agg [.int .i64 0,.int .i64 32])
 AQ:B5 P 3 (.agg [.int .i64 0,.int .i64 9])
 A8:B5 P 4 (.agg [.int .i64 0,.int .i64 1048576])
section
variable {P:BE} (hPp:P.p=prog)
include hPp
theorem sD(b a n:Int){c:AE}{K:V->Prop}(h:K (.d (.bool (decide (b<=n)&&decide (n<=a))))):AW P 165 [.d (.agg [.int .i64 b,.int .i64 a]),.d (.int .i64 n)] c K:=by
 refine AK hPp AT (ds:=[.agg [.int .i64 b,.int .i64 a],.int .i64 n]) Zko.1 Zko.2 A6.nil ?_;simp[Zch];simpa using h
variable {ob:AE} {p:Nat} {ts:List Ay} {en:Int} {S:V} (hS:Cb [S]=none) (hp:AD ob p=some (pb ts en S)) {K:BQ->AE->Prop}
include hS hp
theorem Wd(e c:Int)(h:PK K ob p en S (λn=>.d (.int .i64 n)) (Yi e c ts)):Aa P 72 [.ptr p [],.d (.agg [.int .i64 e,.int .i64 c])] ob K:=by
 refine Ae hPp AT Z1r.1 Z1r.2 A6.nil λ_ f=>?_;simp[Zv5,hp,hS];refine Mu hPp hS (ts:=ts) (en:=en) (S:=S) (by simp[hp]) _ _ ?_;cases a:Xq 2 [] ts with
 |false=>
  simp[Yi,a]at h;simp[hp,hS];refine U5 hPp hS (ts:=ts) (en:=en) (S:=S) (by simp[hp]) _ ?_;simp[hp,hS];exact Xc hp f h (by simp) (by simp[hp])
 |true=>
  cases ts with
  |nil=>simp[Xq]at a
  |cons x ts=>
   simp[hp,hS,Ay.enc];refine sD hPp _ _ _ ?_;by_cases g:e<=x.n/\x.n<=c
   ·simp[Yi,a,g]at h;simp[g,Ytm,hp,hS];refine XC hPp hS (ts:=x::ts) (en:=en) (S:=S) (by simp[hp,Ay.enc]) _ _ ?_;simp[JA,a,hp,hS,Ay.enc];exact Xc hp f h (by simp) (by simp[hp])
   ·have b:(decide (e<=x.n)&&decide (x.n<=c))=false:=by simpa using g
    simp[Yi,a,Bool.and_assoc,b]at h;simp only[b];simp[hp,hS];refine U5 hPp hS (ts:=x::ts) (en:=en) (S:=S) (by simp[hp,Ay.enc]) _ ?_;simp[hp,hS,Ay.enc];exact Xc hp f h (by simp) (by simp[hp,Ay.enc])
theorem qT(h:PK K ob p en S (λx=>.BU [.d (.AV x.1),.d (.AV x.2)]) (OP ts)):Aa P 169 [.ptr p []] ob K:=by
 refine Ae hPp AT Zks.1 Zks.2 A6.nil λ_ b=>?_;simp[Zcl,hp,hS];refine Z3 hPp hS (by simp[hp]) (PK.bind h (λts' e h=>?_) (λa ts' c h=>?_))
 ·simp;exact Xc hp b h (by simp) (by simp[hp])
 simp[hp,hS];refine Y1 hPp hS (by simp[hp]) _ (PK.bind h (λts' e h=>?_) (λa ts' c h=>?_))
 ·simp;exact Xc hp b h (by simp) (by simp[hp])
 simp[hp,hS];refine Z3 hPp hS (by simp[hp]) (PK.bind h (λts' e h=>?_) (λa ts' c h=>?_))
 ·simp;exact Xc hp b h (by simp) (by simp[hp])
 simp[hp,hS];exact Xc hp b h (by simp) (by simp[hp])
theorem Za8(b:Ez P)(h:PK K ob p en S (λx=>.d x.enc) (I4 ts)):Aa P 85 [.ptr p []] ob K:=by
 refine Ae hPp AT Z14.1 Z14.2 A6.nil λ_ c=>?_;simp[Zwh,hp,hS,b.AX,b.AO,b.As,b.AQ,b.A8];refine Z3 hPp hS (by simp[hp]) (PK.bind h (λts' e h=>?_) (λa ts' f h=>?_))
 ·simp;exact Xc hp c h (by simp) (by simp[hp])
 simp[hp,hS,b.AX,b.AO,b.As,b.AQ,b.A8];refine Y1 hPp hS (by simp[hp]) _ (PK.bind h (λts' e h=>?_) (λa ts' f h=>?_))
 ·simp;exact Xc hp c h (by simp) (by simp[hp])
 simp[hp,hS,b.AX,b.AO,b.As,b.AQ,b.A8];refine Z3 hPp hS (by simp[hp]) (PK.bind h (λts' e h=>?_) (λa ts' f h=>?_))
 ·simp;exact Xc hp c h (by simp) (by simp[hp])
 simp[hp,hS,b.AX,b.AO,b.As,b.AQ,b.A8];rw[PY,Yc]at h;refine Z2 hPp hS (by simp[hp]) _ _ (PK.bind h (λts' e h=>?_) (λa ts' f h=>?_))
 ·simp;exact Xc hp c h (by simp) (by simp[hp])
 cases a
 ·skip
  simp only[BY,CR,CP,Yc,Zi]at h;simp[hp,hS,b.AX,b.AO,b.As,b.AQ,b.A8];refine Z2 hPp hS (by simp[hp]) _ _ (PK.bind h (λts' e h=>?_) (λa ts' f h=>?_))
  ·simp;exact Xc hp c h (by simp) (by simp[hp])
  cases a
  ·skip
   simp only[BY,CR,CP,Yc,Zi]at h;simp[hp,hS,b.AX,b.AO,b.As,b.AQ,b.A8,jP];refine Y1 hPp hS (by simp[hp]) _ (PK.bind h (λts' e h=>?_) (λa ts' f h=>?_))
   ·simp;exact Xc hp c h (by simp) (by simp[hp])
   simp[hp,hS,b.AX,b.AO,b.As,b.AQ,b.A8];exact Xc hp c h (by simp) (by simp[hp])
  ·skip
   simp only[BY,CR,CP,Yc,Zi]at h;simp[hp,hS,b.AX,b.AO,b.As,b.AQ,b.A8];refine Wd hPp hS (by simp[hp]) _ _ (PK.bind h (λts' e h=>?_) (λa ts' f h=>?_))
   ·simp;exact Xc hp c h (by simp) (by simp[hp])
   simp[hp,hS,b.AX,b.AO,b.As,b.AQ,b.A8,jP];have g:IntKind.i64.wrap (-a)=-a:=by have:=Xlu f;exact w_i _ (by omega)
   simp only[g];refine Y1 hPp hS (by simp[hp]) _ (PK.bind h (λts' e h=>?_) (λa ts' f h=>?_))
   ·simp;exact Xc hp c h (by simp) (by simp[hp])
   simp[hp,hS,b.AX,b.AO,b.As,b.AQ,b.A8];exact Xc hp c h (by simp) (by simp[hp])
 ·skip
  simp only[BY,CR,CP,Yc,Zi]at h;simp[hp,hS,b.AX,b.AO,b.As,b.AQ,b.A8];refine Wd hPp hS (by simp[hp]) _ _ (PK.bind h (λts' e h=>?_) (λa ts' f h=>?_))
  ·simp;exact Xc hp c h (by simp) (by simp[hp])
  simp[hp,hS,b.AX,b.AO,b.As,b.AQ,b.A8,jP];refine Y1 hPp hS (by simp[hp]) _ (PK.bind h (λts' e h=>?_) (λa ts' f h=>?_))
  ·simp;exact Xc hp c h (by simp) (by simp[hp])
  simp[hp,hS,b.AX,b.AO,b.As,b.AQ,b.A8];exact Xc hp c h (by simp) (by simp[hp])
theorem Znh(h:PK K ob p en S (λx=>.d x.enc) (K6 ts)):Aa P 87 [.ptr p []] ob K:=by
 refine Ae hPp AT Z16.1 Z16.2 A6.nil λ_ b=>?_;simp[Zwj,hp,hS];refine W1 hPp hS (by simp[hp]) _ (PK.bind h (λts' e h=>?_) (λa ts' c h=>?_))
 ·simp;exact Xc hp b h (by simp) (by simp[hp])
 simp[hp,hS];refine qT hPp hS (by simp[hp]) (PK.bind h (λts' e h=>?_) (λa ts' c h=>?_))
 ·simp;exact Xc hp b h (by simp) (by simp[hp])
 simp[hp,hS];refine Y1 hPp hS (by simp[hp]) _ (PK.bind h (λts' e h=>?_) (λa ts' c h=>?_))
 ·simp;exact Xc hp b h (by simp) (by simp[hp])
 simp[hp,hS];exact Xc hp b h (by simp) (by simp[hp])
theorem Za6(h:PK K ob p en S (λx=>.d x.enc) (Hk ts)):Aa P 79 [.ptr p []] ob K:=by
 refine Ae hPp AT Z1y.1 Z1y.2 A6.nil λ_ b=>?_;simp[Zwb,hp,hS];refine W1 hPp hS (by simp[hp]) _ (PK.bind h (λts' e h=>?_) (λa ts' c h=>?_))
 ·simp;exact Xc hp b h (by simp) (by simp[hp])
 simp[hp,hS];refine Z3 hPp hS (by simp[hp]) (PK.bind h (λts' e h=>?_) (λa ts' c h=>?_))
 ·simp;exact Xc hp b h (by simp) (by simp[hp])
 simp[hp,hS];refine Z3 hPp hS (by simp[hp]) (PK.bind h (λts' e h=>?_) (λa ts' c h=>?_))
 ·simp;exact Xc hp b h (by simp) (by simp[hp])
 simp[hp,hS];refine Z2 hPp hS (by simp[hp]) _ _ (PK.bind h (λts' e h=>?_) (λa ts' c h=>?_))
 ·simp;exact Xc hp b h (by simp) (by simp[hp])
 cases a
 ·skip
  simp only[BY,CR,CP,Yc,Zi]at h;simp[hp,hS,yd];refine Y1 hPp hS (by simp[hp]) _ (PK.bind h (λts' e h=>?_) (λa ts' c h=>?_))
  ·simp;exact Xc hp b h (by simp) (by simp[hp])
  simp[hp,hS];exact Xc hp b h (by simp) (by simp[hp])
 ·skip
  simp only[BY,CR,CP,Yc,Zi]at h;simp[hp,hS];refine qT hPp hS (by simp[hp]) (PK.bind h (λts' e h=>?_) (λa ts' c h=>?_))
  ·simp;exact Xc hp b h (by simp) (by simp[hp])
  simp[hp,hS,yd];refine Y1 hPp hS (by simp[hp]) _ (PK.bind h (λts' e h=>?_) (λa ts' c h=>?_))
  ·simp;exact Xc hp b h (by simp) (by simp[hp])
  simp[hp,hS];exact Xc hp b h (by simp) (by simp[hp])
end
attribute [local simp] CZ CF
attribute [local simp ↓] ql qn qo qi qh qj qk qm wg zy we wh wc zt zu zr zx zw qq qp qy qz zn zb qx qr zo qw qv qt zd zi zf zj zl zm wo wj wq wp qb qa qd qc qe qg qf zq zp
section
variable {P:BE} (hPp:P.p=prog) {ob:AE} {p:Nat} {ts:List Ay} {en:Int} {S:V} (hS:Cb [S]=none) (hp:AD ob p=some (pb ts en S)) {K:BQ->AE->Prop}
include hPp hS hp
theorem SF(b:Ez P)(h:PK K ob p en S (λx=>.d x.enc) (Hq ts)):Aa P 170 [.ptr p []] ob K:=by
 refine Ae hPp AT Zkt.1 Zkt.2 A6.nil λ_ c=>?_;simp[Zcm,hp,hS,b.AX,b.AO,b.As,b.AQ,b.A8];refine Mu hPp hS (ts:=ts) (en:=en) (S:=S) (by simp[hp]) _ _ ?_;cases f:Xq 2 [] ts with
 |false=>
  simp only[Hq,f,BY,CR]at h;simp[hp,hS,b.A8];refine qT hPp hS (by simp[hp]) (PK.bind h (λts' e h=>?_) (λa ts' g h=>?_))
  ·simp;exact Xc hp c h (by simp) (by simp[hp])
  simp[hp,hS,b.AX,b.AO,b.As,b.AQ,b.A8];exact Xc hp c h (by simp) (by simp[hp])
 |true=>
  simp only[Hq,f,CP]at h;simp[hp,hS,b.A8];refine Wd hPp hS (by simp[hp]) _ _ (PK.bind h (λts' e h=>?_) (λa ts' g h=>?_))
  ·simp;exact Xc hp c h (by simp) (by simp[hp])
  simp[hp,hS,b.AX,b.AO,b.As,b.AQ,b.A8];exact Xc hp c h (by simp) (by simp[hp])
theorem Yz3(b:Ez P)(h:PK K ob p en S (λx=>.d x.enc) (Kw ts)):Aa P 81 [.ptr p []] ob K:=by
 refine Ae hPp AT Z10.1 Z10.2 A6.nil λ_ c=>?_;simp[Zwd,hp,hS,b.AX,b.AO,b.As,b.AQ,b.A8];refine W1 hPp hS (by simp[hp]) _ (PK.bind h (λts' e h=>?_) (λa ts' f h=>?_))
 ·simp;exact Xc hp c h (by simp) (by simp[hp])
 simp[hp,hS,b.AX,b.AO,b.As,b.AQ,b.A8];refine SF hPp hS (by simp[hp]) b (PK.bind h (λts' e h=>?_) (λa ts' f h=>?_))
 ·simp;exact Xc hp c h (by simp) (by simp[hp])
 simp[hp,hS,b.AX,b.AO,b.As,b.AQ,b.A8];rw[QB,Yc]at h;refine Z2 hPp hS (by simp[hp]) _ _ (PK.bind h (λts' e h=>?_) (λa ts' f h=>?_))
 ·simp;exact Xc hp c h (by simp) (by simp[hp])
 cases a
 ·skip
  simp only[BY,CR,CP,Yc,Zi]at h;simp[hp,hS,b.AX,b.AO,b.As,b.AQ,b.A8];refine Z2 hPp hS (by simp[hp]) _ _ (PK.bind h (λts' e h=>?_) (λa ts' f h=>?_))
  ·simp;exact Xc hp c h (by simp) (by simp[hp])
  cases a
  ·skip
   simp only[BY,CR,CP,Yc,Zi]at h;simp[hp,hS,b.AX,b.AO,b.As,b.AQ,b.A8];refine Y1 hPp hS (by simp[hp]) _ (PK.bind h (λts' e h=>?_) (λa ts' f h=>?_))
   ·simp;exact Xc hp c h (by simp) (by simp[hp])
   simp[hp,hS,b.AX,b.AO,b.As,b.AQ,b.A8];refine Y1 hPp hS (by simp[hp]) _ (PK.bind h (λts' e h=>?_) (λa ts' f h=>?_))
   ·simp;exact Xc hp c h (by simp) (by simp[hp])
   simp[hp,hS,b.AX,b.AO,b.As,b.AQ,b.A8,ZQ];refine SF hPp hS (by simp[hp]) b (PK.bind h (λts' e h=>?_) (λa ts' f h=>?_))
   ·simp;exact Xc hp c h (by simp) (by simp[hp])
   simp[hp,hS,b.AX,b.AO,b.As,b.AQ,b.A8];refine Y1 hPp hS (by simp[hp]) _ (PK.bind h (λts' e h=>?_) (λa ts' f h=>?_))
   ·simp;exact Xc hp c h (by simp) (by simp[hp])
   simp[hp,hS,b.AX,b.AO,b.As,b.AQ,b.A8];exact Xc hp c h (by simp) (by simp[hp])
  ·skip
   simp only[BY,CR,CP,Yc,Zi]at h;simp[hp,hS,b.AX,b.AO,b.As,b.AQ,b.A8];refine Z2 hPp hS (by simp[hp]) _ _ (PK.bind h (λts' e h=>?_) (λa ts' f h=>?_))
   ·simp;exact Xc hp c h (by simp) (by simp[hp])
   cases a
   ·skip
    simp only[BY,CR,CP,Yc,Zi]at h;simp[hp,hS,b.AX,b.AO,b.As,b.AQ,b.A8,ZQ];refine SF hPp hS (by simp[hp]) b (PK.bind h (λts' e h=>?_) (λa ts' f h=>?_))
    ·simp;exact Xc hp c h (by simp) (by simp[hp])
    simp[hp,hS,b.AX,b.AO,b.As,b.AQ,b.A8];refine Y1 hPp hS (by simp[hp]) _ (PK.bind h (λts' e h=>?_) (λa ts' f h=>?_))
    ·simp;exact Xc hp c h (by simp) (by simp[hp])
    simp[hp,hS,b.AX,b.AO,b.As,b.AQ,b.A8];exact Xc hp c h (by simp) (by simp[hp])
   ·skip
    simp only[BY,CR,CP,Yc,Zi]at h;simp[hp,hS,b.AX,b.AO,b.As,b.AQ,b.A8,ZQ];refine SF hPp hS (by simp[hp]) b (PK.bind h (λts' e h=>?_) (λa ts' f h=>?_))
    ·simp;exact Xc hp c h (by simp) (by simp[hp])
    simp[hp,hS,b.AX,b.AO,b.As,b.AQ,b.A8];refine Y1 hPp hS (by simp[hp]) _ (PK.bind h (λts' e h=>?_) (λa ts' f h=>?_))
    ·simp;exact Xc hp c h (by simp) (by simp[hp])
    simp[hp,hS,b.AX,b.AO,b.As,b.AQ,b.A8];exact Xc hp c h (by simp) (by simp[hp])
 ·skip
  simp only[BY,CR,CP,Yc,Zi]at h;simp[hp,hS,b.AX,b.AO,b.As,b.AQ,b.A8,ZQ];refine SF hPp hS (by simp[hp]) b (PK.bind h (λts' e h=>?_) (λa ts' f h=>?_))
  ·simp;exact Xc hp c h (by simp) (by simp[hp])
  simp[hp,hS,b.AX,b.AO,b.As,b.AQ,b.A8];refine Y1 hPp hS (by simp[hp]) _ (PK.bind h (λts' e h=>?_) (λa ts' f h=>?_))
  ·simp;exact Xc hp c h (by simp) (by simp[hp])
  simp[hp,hS,b.AX,b.AO,b.As,b.AQ,b.A8];exact Xc hp c h (by simp) (by simp[hp])
theorem Zni(b:Ez P)(h:PK K ob p en S (λx=>.d x.enc) (K7 ts)):Aa P 83 [.ptr p []] ob K:=by
 refine Ae hPp AT Z12.1 Z12.2 A6.nil λ_ c=>?_;simp[Zwf,hp,hS,b.AX,b.AO,b.As,b.AQ,b.A8];refine W1 hPp hS (by simp[hp]) _ (PK.bind h (λts' e h=>?_) (λa ts' f h=>?_))
 ·simp;exact Xc hp c h (by simp) (by simp[hp])
 simp[hp,hS,b.AX,b.AO,b.As,b.AQ,b.A8];refine Z3 hPp hS (by simp[hp]) (PK.bind h (λts' e h=>?_) (λa ts' f h=>?_))
 ·simp;exact Xc hp c h (by simp) (by simp[hp])
 simp[hp,hS,b.AX,b.AO,b.As,b.AQ,b.A8];refine Y1 hPp hS (by simp[hp]) _ (PK.bind h (λts' e h=>?_) (λa ts' f h=>?_))
 ·simp;exact Xc hp c h (by simp) (by simp[hp])
 simp[hp,hS,b.AX,b.AO,b.As,b.AQ,b.A8];refine SF hPp hS (by simp[hp]) b (PK.bind h (λts' e h=>?_) (λa ts' f h=>?_))
 ·simp;exact Xc hp c h (by simp) (by simp[hp])
 simp[hp,hS,b.AX,b.AO,b.As,b.AQ,b.A8];refine Y1 hPp hS (by simp[hp]) _ (PK.bind h (λts' e h=>?_) (λa ts' f h=>?_))
 ·simp;exact Xc hp c h (by simp) (by simp[hp])
 simp[hp,hS,b.AX,b.AO,b.As,b.AQ,b.A8];exact Xc hp c h (by simp) (by simp[hp])
theorem Xtr(g:Ez P)(h:PK K ob p en S (λl=>.d (.agg (l.map iD))) (Uj ts)):Aa P 73 [.ptr p []] ob K:=by
 refine Ae hPp AT Z1s.1 Z1s.2 A6.nil λ_ b=>?_;simp[Zv6,hp,hS];refine Aw.go (ι:=List Int×List Ay) (λj=>[(0,.ptr p []),(2,.ptr (AA ob) []),(4,.d (.int .i64 j.1.length))])
  (λj=>(AA ob,.box 156 (.d (.agg (j.1.map iD++List.replicate (4-j.1.length) (iD 0)))))::AG ob p (pb j.2 en S))
  (λj=>j.1.length<=4/\PK K ob p en S (λl=>.d (.agg (l.map iD))) ((GQ (4-j.1.length) >>= λl=>pure (j.1++l)) j.2)) (λj=>4-j.1.length) ([],ts) ⟨by simp,?_⟩ (by simp) (by simp[Yd hp]) ?_
 ·simp only[Uj]at h;simp only[S5,Nat.sub_zero,Gx];rw[Xh];cases t:GQ 4 ts with
  |ok a ts'=>rw[t]at h;exact h
  |B0 ts' e=>rw[t]at h;exact h
 rintro⟨l,v⟩ ⟨r,h⟩ R i u x k;have m:IntKind.i64.wrap 1=1:=by decide
 have n:IntKind.i64.wrap 2=2:=by decide
 have o:IntKind.i64.wrap 3=3:=by decide
 have w4:IntKind.i64.wrap 4=4:=by decide
 match l,r with
 |[],_=>
  simp[Tf,hp,hS,g.AQ];simp[GQ,Yc,Zi]at h;refine Wd hPp hS (by simp[hp]) _ _ (PK.bind h (λts' e h=>?_) (λa ts' q h=>?_))
  ·simp;refine k _ _ _ ?_;simp;exact Xc hp b h (by simp) (by simp[hp])
  simp[hp,hS,m,n,o,w4];refine i [] ([a],ts') _ _ ⟨by simp,by simpa[GQ,Yc,Zi]using h⟩ (by simp) (by simp) (by simp[hp]) (by simp[hp]) ?_;simp;refine Ao _ _ _ _ _ (Xn _ b) ?_;have:=Vw (Xn 1 (l:=[]) b) hp;simpa[pv]using this
 |[c],_=>
  simp[Tf,hp,hS,g.AQ];simp[GQ,Yc,Zi]at h;refine Wd hPp hS (by simp[hp]) _ _ (PK.bind h (λts' e h=>?_) (λa ts' q h=>?_))
  ·simp;refine k _ _ _ ?_;simp;exact Xc hp b h (by simp) (by simp[hp])
  simp[hp,hS,m,n,o,w4];refine i [] ([c,a],ts') _ _ ⟨by simp,by simpa[GQ,Yc,Zi]using h⟩ (by simp) (by simp) (by simp[hp]) (by simp[hp]) ?_;simp;refine Ao _ _ _ _ _ (Xn _ b) ?_;have:=Vw (Xn 1 (l:=[]) b) hp;simpa[pv]using this
 |[c,f],_=>
  simp[Tf,hp,hS,g.AQ];simp[GQ,Yc,Zi]at h;refine Wd hPp hS (by simp[hp]) _ _ (PK.bind h (λts' e h=>?_) (λa ts' q h=>?_))
  ·simp;refine k _ _ _ ?_;simp;exact Xc hp b h (by simp) (by simp[hp])
  simp[hp,hS,m,n,o,w4];refine i [] ([c,f,a],ts') _ _ ⟨by simp,by simpa[GQ,Yc,Zi]using h⟩ (by simp) (by simp) (by simp[hp]) (by simp[hp]) ?_;simp;refine Ao _ _ _ _ _ (Xn _ b) ?_;have:=Vw (Xn 1 (l:=[]) b) hp;simpa[pv]using this
 |[c,f,s],_=>
  simp[Tf,hp,hS,g.AQ];simp[GQ,Yc,Zi]at h;refine Wd hPp hS (by simp[hp]) _ _ (PK.bind h (λts' e h=>?_) (λa ts' q h=>?_))
  ·simp;refine k _ _ _ ?_;simp;exact Xc hp b h (by simp) (by simp[hp])
  simp[hp,hS,m,n,o,w4];refine i [] ([c,f,s,a],ts') _ _ ⟨by simp,by simpa[GQ,Yc,Zi]using h⟩ (by simp) (by simp) (by simp[hp]) (by simp[hp]) ?_;simp;refine Ao _ _ _ _ _ (Xn _ b) ?_;have:=Vw (Xn 1 (l:=[]) b) hp;simpa[pv]using this
 |[c,f,s,w],_=>
  simp[Tf,hp,hS];simp[GQ,Yc,Zi]at h;refine u _ _ _ ?_;simp[hp,hS];exact Xc hp b h (by simp) (by simp[hp])
 |_::_::_::_::_::_,r=>simp at r
end
attribute [local simp] CZ CF
attribute [local simp ↓] ql qn qo qi qh qj qk qm wg zy we wh wc zt zu zr zx zw qq qp qy qz zn zb qx qr zo qw qv qt zd zi zf zj zl zm wo wj wq wp qb qa qd qc qe qg qf zq zp
section
variable {P:BE} (hPp:P.p=prog) {ob:AE} {p:Nat} {ts:List Ay} {en:Int} {S:V} (hS:Cb [S]=none) (hp:AD ob p=some (pb ts en S)) {K:BQ->AE->Prop}
include hPp hS hp
omit hS in
theorem Tc(t:B)(x:Nat)(a:AA ob=x)(h:K (.ret (.fn 168 [] [.ptr x [],.ptr (x+1) []])) ((x+1,.box 9 (.d (.AV t)))::(x,.box 62 (.ptr p []))::ob)):Aa P 78 [.ptr p [],.d (.AV t)] ob K:=by
 subst a;refine Ae hPp AT Z1x.1 Z1x.2 A6.nil λ_ b=>?_;simp[Zwa];refine⟨[AA ob,AA ob+1],by simp[AF],?_,?_⟩<;>simp_all[AA,AF,Xk]
theorem TP{t:B}{a b:Nat}(c:AD ob a=some (.box 62 (.ptr p [])))(e:AD ob b=some (.box 9 (.d (.AV t))))(h:K (.ret (.d (.bool (Xq 1 t ts)))) (AG ob p (pb ts en S))):Aa P 168 [.ptr a [],.ptr b []] ob K:=by
 refine Ae hPp AT Zkr.1 Zkr.2 A6.nil λ_ f=>?_;simp[Zck,c,e];refine Mu hPp hS hp _ _ ?_;exact Xc hp f h (by simp) (by simp )
theorem Yzx{O:Type}{enc:O->D}(L:∀a,(enc a).shape=.node [.leaf,.leaf,.leaf,.node [.leaf,.leaf,.leaf,.leaf,.leaf]])(c:List Ay->Bool)(f:M O)(b:Nat)(F:b<=1000)(v w:Nat)(k i s r:List V)(y:Xd P.p v=true)(J:Xd P.p w=true)
 (x:Nat) (hx:AA ob=x) (Y:∀(ts:List Ay)(o:Ob)(K:BQ->AE->Prop),K (.ret (.d (.bool (c ts)))) ((x,o)::AG ob p (pb ts en S))->Aa P v (k++i) ((x,o)::AG ob p (pb ts en S)) K)
 (hr:∀(ts:List Ay)(o:Ob)(K:BQ->AE->Prop),PK K ((x,o)::AG ob p (pb ts en S)) p en S (λa=>.d (enc a)) (f ts)->Aa P w (s++r) ((x,o)::AG ob p (pb ts en S)) K)
 (h:PK K ob p en S (λl=>.d (.AH 8 (l.map enc))) (X9 c f b ts)):Aa P 77 [.ptr p [],.d (.int .i64 b),.fn v k i,.fn w s r] ob K:=by
 subst hx;refine Ae hPp AT Z1w.1 Z1w.2 A6.nil λhv t=>?_;have u:=JP (p:=AF (AA ob+1) []) (q:=AF (AA ob) []) (λj e=>by grind[AF]) _ (hv []);simp at u;simp[Zv9];refine Aw.go (ι:=List O×List Ay) (λj=>[(0,.ptr p []),(1,.d (.int .i64 b)),(2,.fn v k i),(3,.fn w s r),(8,.sl (AA ob) j.1.length)])
  (λj=>(AA ob,.BO 168 8 (j.1.map enc))::AG ob p (pb j.2 en S))
  (λj=>j.1.length<=b/\PK K ob p en S (λl=>.d (.AH 8 (l.map enc))) ((X9 c f (b-j.1.length) >>= λl=>pure (j.1++l)) j.2)) (λj=>b-j.1.length) ([],ts) ⟨by simp,?_⟩ (by simp) (by simp[Yd hp]) ?_
 ·rw[Xh];split<;>simp_all
 rintro⟨l,g⟩ ⟨Z,h⟩ R U re rr W;dsimp only at Z h U;simp[Ytn,y];refine Y _ _ _ ?_;cases m:c g with
 |false=>
  simp ;refine re _ _ _ ?_;have X:PK K ob p en S (λl=>.d (.AH 8 (l.map enc))) (.ok l g):=by
   rw[Xh]at h;cases G:b-l.length<;>simpa[G,X9,m]using h
  simp ;exact Xc hp t X (by simp) (by simp )
 |true=>
  by_cases T:l.length=b
  ·simp[T,X9,m,Xh]at h;simp[T];refine U5 hPp hS (ts:=g) (en:=en) (S:=S) (by simp[hp]) _ ?_;refine W _ _ _ ?_;exact Xc hp t h (by simp) (by simp[hp])
  ·have H:¬((l.length:Int)=b):=by omega
   obtain⟨n,G⟩:∃n,b-l.length=n+1:=⟨b-l.length-1,by omega⟩
   simp only[G]at h;simp only[Xh,X9,m,CP]at h;simp[H,J,Yto];refine hr _ _ _ ?_;cases Q:f g with
   |B0 ts' e=>
    simp only[Q]at h;refine W _ _ _ ?_;exact Xc hp t h (by simp) (by simp[hp])
   |ok a ts'=>
    simp only[Q]at h;simp[hp,L];refine⟨by omega,?_⟩;refine U [] (l++[a],ts') _ _ ⟨by simp;omega,?_⟩ (by simp;omega) (by simp) (by simp ) (by simp[u]) ?_
    ·simp only[Dd,Ml,show b-(l.length+1)=n by omega];rw[Xh];cases z:X9 c f n ts' with
     |B0 N e=>grind
     |ok l2 N=>simp only[z]at h;simpa using h
    ·simp;refine Ao _ _ _ _ _ (Xn _ t) ?_;have:=Vw (Xn 1 (l:=[]) t) hp;simpa  using this
theorem Yzw{O:Type}{enc:O->D}(L:∀a,(enc a).shape=.node [.leaf,.node [.leaf,.leaf,.leaf,.leaf,.leaf],.node [.leaf,.leaf,.leaf,.leaf,.leaf]])(c:List Ay->Bool)(f:M O)(b:Nat)(F:b<=1000)(v w:Nat)(k i s r:List V)(y:Xd P.p v=true)(J:Xd P.p w=true)
 (x:Nat) (hx:AA ob=x) (Y:∀(ts:List Ay)(o:Ob)(K:BQ->AE->Prop),K (.ret (.d (.bool (c ts)))) ((x,o)::AG ob p (pb ts en S))->Aa P v (k++i) ((x,o)::AG ob p (pb ts en S)) K)
 (hr:∀(ts:List Ay)(o:Ob)(K:BQ->AE->Prop),PK K ((x,o)::AG ob p (pb ts en S)) p en S (λa=>.d (enc a)) (f ts)->Aa P w (s++r) ((x,o)::AG ob p (pb ts en S)) K)
 (h:PK K ob p en S (λl=>.d (.AH 11 (l.map enc))) (X9 c f b ts)):Aa P 80 [.ptr p [],.d (.int .i64 b),.fn v k i,.fn w s r] ob K:=by
 subst hx;refine Ae hPp AT Z1z.1 Z1z.2 A6.nil λhv t=>?_;have u:=JP (p:=AF (AA ob+1) []) (q:=AF (AA ob) []) (λj e=>by grind[AF]) _ (hv []);simp at u;simp[Zwc];refine Aw.go (ι:=List O×List Ay) (λj=>[(0,.ptr p []),(1,.d (.int .i64 b)),(2,.fn v k i),(3,.fn w s r),(8,.sl (AA ob) j.1.length)])
  (λj=>(AA ob,.BO 173 11 (j.1.map enc))::AG ob p (pb j.2 en S))
  (λj=>j.1.length<=b/\PK K ob p en S (λl=>.d (.AH 11 (l.map enc))) ((X9 c f (b-j.1.length) >>= λl=>pure (j.1++l)) j.2)) (λj=>b-j.1.length) ([],ts) ⟨by simp,?_⟩ (by simp) (by simp[Yd hp]) ?_
 ·rw[Xh];split<;>simp_all
 rintro⟨l,g⟩ ⟨Z,h⟩ R U re rr W;dsimp only at Z h U;simp[Ytp,y];refine Y _ _ _ ?_;cases m:c g with
 |false=>
  simp ;refine re _ _ _ ?_;have X:PK K ob p en S (λl=>.d (.AH 11 (l.map enc))) (.ok l g):=by
   rw[Xh]at h;cases G:b-l.length<;>simpa[G,X9,m]using h
  simp ;exact Xc hp t X (by simp) (by simp )
 |true=>
  by_cases T:l.length=b
  ·simp[T,X9,m,Xh]at h;simp[T];refine U5 hPp hS (ts:=g) (en:=en) (S:=S) (by simp[hp]) _ ?_;refine W _ _ _ ?_;exact Xc hp t h (by simp) (by simp[hp])
  ·have H:¬((l.length:Int)=b):=by omega
   obtain⟨n,G⟩:∃n,b-l.length=n+1:=⟨b-l.length-1,by omega⟩
   simp only[G]at h;simp only[Xh,X9,m,CP]at h;simp[H,J,Ytq];refine hr _ _ _ ?_;cases Q:f g with
   |B0 ts' e=>
    simp only[Q]at h;refine W _ _ _ ?_;exact Xc hp t h (by simp) (by simp[hp])
   |ok a ts'=>
    simp only[Q]at h;simp[hp,L];refine⟨by omega,?_⟩;refine U [] (l++[a],ts') _ _ ⟨by simp;omega,?_⟩ (by simp;omega) (by simp) (by simp ) (by simp[u]) ?_
    ·simp only[Dd,Ml,show b-(l.length+1)=n by omega];rw[Xh];cases z:X9 c f n ts' with
     |B0 N e=>grind
     |ok l2 N=>simp only[z]at h;simpa using h
    ·simp;refine Ao _ _ _ _ _ (Xn _ t) ?_;have:=Vw (Xn 1 (l:=[]) t) hp;simpa  using this
theorem Yz1{O:Type}{enc:O->D}(L:∀a,(enc a).shape=.node [.leaf,.leaf,.node [.leaf,.leaf,.leaf,.leaf,.leaf]])(c:List Ay->Bool)(f:M O)(b:Nat)(F:b<=1000)(v w:Nat)(k i s r:List V)(y:Xd P.p v=true)(J:Xd P.p w=true)
 (x:Nat) (hx:AA ob=x) (Y:∀(ts:List Ay)(o:Ob)(K:BQ->AE->Prop),K (.ret (.d (.bool (c ts)))) ((x,o)::AG ob p (pb ts en S))->Aa P v (k++i) ((x,o)::AG ob p (pb ts en S)) K)
 (hr:∀(ts:List Ay)(o:Ob)(K:BQ->AE->Prop),PK K ((x,o)::AG ob p (pb ts en S)) p en S (λa=>.d (enc a)) (f ts)->Aa P w (s++r) ((x,o)::AG ob p (pb ts en S)) K)
 (h:PK K ob p en S (λl=>.d (.AH 7 (l.map enc))) (X9 c f b ts)):Aa P 82 [.ptr p [],.d (.int .i64 b),.fn v k i,.fn w s r] ob K:=by
 subst hx;refine Ae hPp AT Z11.1 Z11.2 A6.nil λhv t=>?_;have u:=JP (p:=AF (AA ob+1) []) (q:=AF (AA ob) []) (λj e=>by grind[AF]) _ (hv []);simp at u;simp[Zwe];refine Aw.go (ι:=List O×List Ay) (λj=>[(0,.ptr p []),(1,.d (.int .i64 b)),(2,.fn v k i),(3,.fn w s r),(8,.sl (AA ob) j.1.length)])
  (λj=>(AA ob,.BO 177 7 (j.1.map enc))::AG ob p (pb j.2 en S))
  (λj=>j.1.length<=b/\PK K ob p en S (λl=>.d (.AH 7 (l.map enc))) ((X9 c f (b-j.1.length) >>= λl=>pure (j.1++l)) j.2)) (λj=>b-j.1.length) ([],ts) ⟨by simp,?_⟩ (by simp) (by simp[Yd hp]) ?_
 ·rw[Xh];split<;>simp_all
 rintro⟨l,g⟩ ⟨Z,h⟩ R U re rr W;dsimp only at Z h U;simp[Ytr,y];refine Y _ _ _ ?_;cases m:c g with
 |false=>
  simp ;refine re _ _ _ ?_;have X:PK K ob p en S (λl=>.d (.AH 7 (l.map enc))) (.ok l g):=by
   rw[Xh]at h;cases G:b-l.length<;>simpa[G,X9,m]using h
  simp ;exact Xc hp t X (by simp) (by simp )
 |true=>
  by_cases T:l.length=b
  ·simp[T,X9,m,Xh]at h;simp[T];refine U5 hPp hS (ts:=g) (en:=en) (S:=S) (by simp[hp]) _ ?_;refine W _ _ _ ?_;exact Xc hp t h (by simp) (by simp[hp])
  ·have H:¬((l.length:Int)=b):=by omega
   obtain⟨n,G⟩:∃n,b-l.length=n+1:=⟨b-l.length-1,by omega⟩
   simp only[G]at h;simp only[Xh,X9,m,CP]at h;simp[H,J,Yts];refine hr _ _ _ ?_;cases Q:f g with
   |B0 ts' e=>
    simp only[Q]at h;refine W _ _ _ ?_;exact Xc hp t h (by simp) (by simp[hp])
   |ok a ts'=>
    simp only[Q]at h;simp[hp,L];refine⟨by omega,?_⟩;refine U [] (l++[a],ts') _ _ ⟨by simp;omega,?_⟩ (by simp;omega) (by simp) (by simp ) (by simp[u]) ?_
    ·simp only[Dd,Ml,show b-(l.length+1)=n by omega];rw[Xh];cases z:X9 c f n ts' with
     |B0 N e=>grind
     |ok l2 N=>simp only[z]at h;simpa using h
    ·simp;refine Ao _ _ _ _ _ (Xn _ t) ?_;have:=Vw (Xn 1 (l:=[]) t) hp;simpa  using this
theorem Yzy{O:Type}{enc:O->D}(L:∀a,(enc a).shape=.node [.leaf,.leaf,.leaf,.leaf,.leaf])(c:List Ay->Bool)(f:M O)(b:Nat)(F:b<=1000)(v w:Nat)(k i s r:List V)(y:Xd P.p v=true)(J:Xd P.p w=true)
 (x:Nat) (hx:AA ob=x) (Y:∀(ts:List Ay)(o:Ob)(K:BQ->AE->Prop),K (.ret (.d (.bool (c ts)))) ((x,o)::AG ob p (pb ts en S))->Aa P v (k++i) ((x,o)::AG ob p (pb ts en S)) K)
 (hr:∀(ts:List Ay)(o:Ob)(K:BQ->AE->Prop),PK K ((x,o)::AG ob p (pb ts en S)) p en S (λa=>.d (enc a)) (f ts)->Aa P w (s++r) ((x,o)::AG ob p (pb ts en S)) K)
 (h:PK K ob p en S (λl=>.d (.AH 5 (l.map enc))) (X9 c f b ts)):Aa P 84 [.ptr p [],.d (.int .i64 b),.fn v k i,.fn w s r] ob K:=by
 subst hx;refine Ae hPp AT Z13.1 Z13.2 A6.nil λhv t=>?_;have u:=JP (p:=AF (AA ob+1) []) (q:=AF (AA ob) []) (λj e=>by grind[AF]) _ (hv []);simp at u;simp[Zwg];refine Aw.go (ι:=List O×List Ay) (λj=>[(0,.ptr p []),(1,.d (.int .i64 b)),(2,.fn v k i),(3,.fn w s r),(8,.sl (AA ob) j.1.length)])
  (λj=>(AA ob,.BO 181 5 (j.1.map enc))::AG ob p (pb j.2 en S))
  (λj=>j.1.length<=b/\PK K ob p en S (λl=>.d (.AH 5 (l.map enc))) ((X9 c f (b-j.1.length) >>= λl=>pure (j.1++l)) j.2)) (λj=>b-j.1.length) ([],ts) ⟨by simp,?_⟩ (by simp) (by simp[Yd hp]) ?_
 ·rw[Xh];split<;>simp_all
 rintro⟨l,g⟩ ⟨Z,h⟩ R U re rr W;dsimp only at Z h U;simp[Ytt,y];refine Y _ _ _ ?_;cases m:c g with
 |false=>
  simp ;refine re _ _ _ ?_;have X:PK K ob p en S (λl=>.d (.AH 5 (l.map enc))) (.ok l g):=by
   rw[Xh]at h;cases G:b-l.length<;>simpa[G,X9,m]using h
  simp ;exact Xc hp t X (by simp) (by simp )
 |true=>
  by_cases T:l.length=b
  ·simp[T,X9,m,Xh]at h;simp[T];refine U5 hPp hS (ts:=g) (en:=en) (S:=S) (by simp[hp]) _ ?_;refine W _ _ _ ?_;exact Xc hp t h (by simp) (by simp[hp])
  ·have H:¬((l.length:Int)=b):=by omega
   obtain⟨n,G⟩:∃n,b-l.length=n+1:=⟨b-l.length-1,by omega⟩
   simp only[G]at h;simp only[Xh,X9,m,CP]at h;simp[H,J,Ytu];refine hr _ _ _ ?_;cases Q:f g with
   |B0 ts' e=>
    simp only[Q]at h;refine W _ _ _ ?_;exact Xc hp t h (by simp) (by simp[hp])
   |ok a ts'=>
    simp only[Q]at h;simp[hp,L];refine⟨by omega,?_⟩;refine U [] (l++[a],ts') _ _ ⟨by simp;omega,?_⟩ (by simp;omega) (by simp) (by simp ) (by simp[u]) ?_
    ·simp only[Dd,Ml,show b-(l.length+1)=n by omega];rw[Xh];cases z:X9 c f n ts' with
     |B0 N e=>grind
     |ok l2 N=>simp only[z]at h;simpa using h
    ·simp;refine Ao _ _ _ _ _ (Xn _ t) ?_;have:=Vw (Xn 1 (l:=[]) t) hp;simpa  using this
theorem Yz0{O:Type}{enc:O->D}(L:∀a,(enc a).shape=.node [.leaf,.leaf,.leaf,.leaf])(c:List Ay->Bool)(f:M O)(b:Nat)(F:b<=1000)(w y:Nat)(k i s r:List V)(z:Xd P.p w=true)(J:Xd P.p y=true)
 (x:Nat) (hx:AA ob=x) (Y:∀(ts:List Ay)(o:Ob)(K:BQ->AE->Prop),K (.ret (.d (.bool (c ts)))) ((x,o)::AG ob p (pb ts en S))->Aa P w (k++i) ((x,o)::AG ob p (pb ts en S)) K)
 (hr:∀(ts:List Ay)(o:Ob)(K:BQ->AE->Prop),PK K ((x,o)::AG ob p (pb ts en S)) p en S (λa=>.d (enc a)) (f ts)->Aa P y (s++r) ((x,o)::AG ob p (pb ts en S)) K)
 (h:PK K ob p en S (λl=>.d (.AH 4 (l.map enc))) (X9 c f b ts)):Aa P 86 [.ptr p [],.d (.int .i64 b),.fn w k i,.fn y s r] ob K:=by
 subst hx;refine Ae hPp AT Z15.1 Z15.2 A6.nil λhv u=>?_;have v:=JP (p:=AF (AA ob+1) []) (q:=AF (AA ob) []) (λj e=>by grind[AF]) _ (hv []);simp at v;simp[Zwi];refine Aw.go (ι:=List O×List Ay) (λj=>[(0,.ptr p []),(1,.d (.int .i64 b)),(2,.fn w k i),(3,.fn y s r),(8,.sl (AA ob) j.1.length)])
  (λj=>(AA ob,.BO 146 4 (j.1.map enc))::AG ob p (pb j.2 en S))
  (λj=>j.1.length<=b/\PK K ob p en S (λl=>.d (.AH 4 (l.map enc))) ((X9 c f (b-j.1.length) >>= λl=>pure (j.1++l)) j.2)) (λj=>b-j.1.length) ([],ts) ⟨by simp,?_⟩ (by simp) (by simp[Yd hp]) ?_
 ·rw[Xh];split<;>simp_all
 rintro⟨l,g⟩ ⟨Z,h⟩ R U re rr W;dsimp only at Z h U;simp[Ytv,z];refine Y _ _ _ ?_;cases m:c g with
 |false=>
  simp ;refine re _ _ _ ?_;have X:PK K ob p en S (λl=>.d (.AH 4 (l.map enc))) (.ok l g):=by
   rw[Xh]at h;cases G:b-l.length<;>simpa[G,X9,m]using h
  simp ;exact Xc hp u X (by simp) (by simp )
 |true=>
  by_cases T:l.length=b
  ·simp[T,X9,m,Xh]at h;simp[T];refine U5 hPp hS (ts:=g) (en:=en) (S:=S) (by simp[hp]) _ ?_;refine W _ _ _ ?_;exact Xc hp u h (by simp) (by simp[hp])
  ·have H:¬((l.length:Int)=b):=by omega
   obtain⟨n,G⟩:∃n,b-l.length=n+1:=⟨b-l.length-1,by omega⟩
   simp only[G]at h;simp only[Xh,X9,m,CP]at h;simp[H,J,Ytw];refine hr _ _ _ ?_;cases Q:f g with
   |B0 ts' e=>
    simp only[Q]at h;refine W _ _ _ ?_;exact Xc hp u h (by simp) (by simp[hp])
   |ok a ts'=>
    simp only[Q]at h;simp[hp,L];refine⟨by omega,?_⟩;refine U [] (l++[a],ts') _ _ ⟨by simp;omega,?_⟩ (by simp;omega) (by simp) (by simp ) (by simp[v]) ?_
    ·simp only[Dd,Ml,show b-(l.length+1)=n by omega];rw[Xh];cases t:X9 c f n ts' with
     |B0 N e=>simp only[t]at h;exact h
     |ok l2 N=>simp only[t]at h;simpa using h
    ·simp;refine Ao _ _ _ _ _ (Xn _ u) ?_;have:=Vw (Xn 1 (l:=[]) u) hp;simpa[pv]using this
theorem Yzz{Q:Type}{enc:Q->D}(N:∀a,(enc a).shape=.leaf)(c:List Ay->Bool)(f:M Q)(b:Nat)(G:b<=1000)(w z:Nat)(k i s r:List V)(F:Xd P.p w=true)(L:Xd P.p z=true)
 (x:Nat) (hx:AA ob=x) (Z:∀(ts:List Ay)(o:Ob)(K:BQ->AE->Prop),K (.ret (.d (.bool (c ts)))) ((x,o)::AG ob p (pb ts en S))->Aa P w (k++i) ((x,o)::AG ob p (pb ts en S)) K)
 (y:∀(ts:List Ay)(o:Ob)(K:BQ->AE->Prop),PK K ((x,o)::AG ob p (pb ts en S)) p en S (λa=>.d (enc a)) (f ts)->Aa P z (s++r) ((x,o)::AG ob p (pb ts en S)) K)
 (h:PK K ob p en S (λl=>.d (.AH 1 (l.map enc))) (X9 c f b ts)):Aa P 230 [.ptr p [],.d (.int .i64 b),.fn w k i,.fn z s r] ob K:=by
 subst hx;refine Ae hPp AT Zmb.1 Zmb.2 A6.nil λhv u=>?_;have v:=JP (p:=AF (AA ob+1) []) (q:=AF (AA ob) []) (λj e=>by simp[AF]at e⊢;omega) _ (hv []);simp at v;simp[Zc7,hp,hS];refine Aw.go (ι:=List Q×List Ay) (λj=>[(0,.ptr p []),(1,.d (.int .i64 b)),(2,.fn w k i),(3,.fn z s r),(8,.sl (AA ob) j.1.length)])
  (λj=>(AA ob,.BO 9 1 (j.1.map enc))::AG ob p (pb j.2 en S))
  (λj=>j.1.length<=b/\PK K ob p en S (λl=>.d (.AH 1 (l.map enc))) ((X9 c f (b-j.1.length) >>= λl=>pure (j.1++l)) j.2)) (λj=>b-j.1.length) ([],ts) ⟨by simp,?_⟩ (by simp) (by simp[Yd hp]) ?_
 ·simp only[S5,Nat.sub_zero,Gx];rw[Xh];cases y:X9 c f b ts with
  |ok a ts'=>rw[y]at h;exact h
  |B0 ts' e=>rw[y]at h;exact h
 rintro⟨l,g⟩ ⟨hl,h⟩ R W re rr X;dsimp only at hl h W;simp[Yjq,hp,hS,F];refine Z _ _ _ ?_;cases m:c g with
 |false=>
  simp[hp,hS];refine re _ _ _ ?_;have Y:PK K ob p en S (λl=>.d (.AH 1 (l.map enc))) (.ok l g):=by
   rw[Xh]at h;cases H:b-l.length<;>simpa[H,X9,m]using h
  simp[hp,hS];exact Xc hp u Y (by simp) (by simp[hp])
 |true=>
  by_cases U:l.length=b
  ·simp[U,X9,m,Xh]at h;simp[hp,hS,U];refine U5 hPp hS (ts:=g) (en:=en) (S:=S) (by simp[hp]) _ ?_;simp[hp];refine X _ _ _ ?_;simp;exact Xc hp u h (by simp) (by simp[hp])
  ·have J:¬((l.length:Int)=b):=by omega
   obtain⟨n,H⟩:∃n,b-l.length=n+1:=⟨b-l.length-1,by omega⟩
   simp only[H]at h;simp only[Xh,X9,m,CP]at h;simp[hp,hS,J,L,Yjr];refine y _ _ _ ?_;cases T:f g with
   |B0 ts' e=>
    simp only[T]at h;simp;refine X _ _ _ ?_;simp;exact Xc hp u h (by simp) (by simp[hp])
   |ok a ts'=>
    simp only[T]at h;simp[hp,hS,N];refine⟨by omega,?_⟩;refine W [] (l++[a],ts') _ _ ⟨by simp;omega,?_⟩ (by simp;omega) (by simp) (by simp[hp]) (by simp[hp,v]) ?_
    ·simp only[Dd,Ml,show b-(l.length+1)=n by omega];rw[Xh];cases t:X9 c f n ts' with
     |B0 O e=>simp only[t]at h;exact h
     |ok l2 O=>simp only[t]at h;simpa using h
    ·simp;refine Ao _ _ _ _ _ (Xn _ u) ?_;have:=Vw (Xn 1 (l:=[]) u) hp;simpa[pv]using this
end
attribute [local simp] CZ CF
attribute [local simp ↓] ql qn qo qi qh qj qk qm wg zy we wh wc zt zu zr zx zw qq qp qy qz zn zb qx qr zo qw qv qt zd zi zf zj zl zm wo wj wq wp qb qa qd qc qe qg qf zq zp
section
variable {P:BE} (hPp:P.p=prog) {ob:AE} {p:Nat} {ts:List Ay} {en:Int} {S:V} (hS:Cb [S]=none) (hp:AD ob p=some (pb ts en S)) {K:BQ->AE->Prop}
include hPp
theorem J1:Xd P.p 229=true/\Xd P.p 231=true/\Xd P.p 168=true/\Xd P.p 79=true/\Xd P.p 81=true/\Xd P.p 83=true/\Xd P.p 85=true/\Xd P.p 87=true:=by
 rw[hPp];exact⟨by kernel_rfl,by kernel_rfl,by kernel_rfl,by kernel_rfl,by kernel_rfl,by kernel_rfl,by kernel_rfl,by kernel_rfl⟩
include hS hp
theorem Yig{a:Nat}(b:AD ob a=some (.box 62 (.ptr p [])))(h:K (.ret (.d (.bool (Xq 3 [44] ts)))) (AG ob p (pb ts en S))):Aa P 229 [.ptr a []] ob K:=by
 refine Ae hPp AT Zma.1 Zma.2 A6.nil λ_ c=>?_;simp[Zc6,b];refine Mu hPp hS hp _ _ ?_;exact Xc hp c h (by simp) (by simp )
theorem Yih{b:Nat}(g:AD ob b=some (.box 62 (.ptr p [])))(h:PK K ob p en S (λa=>.d (.AV a)) ((do Ym [44];Yu:M B) ts)):Aa P 231 [.ptr b []] ob K:=by
 have f:(p==b)=false:=by grind
 refine Ae hPp AT Zmc.1 Zmc.2 A6.nil λ_ c=>?_;simp[Zc8,g];refine Y1 hPp hS hp _ (PK.bind h (λts' e h=>?_) (λa ts' i h=>?_))
 ·exact Xc hp c h (by simp) (by simp )
 simp[g,f];refine Z3 hPp hS (by simp[hp]) (PK.tail h (λts' e h=>?_) (λa ts' i h=>?_))
 ·exact Xc hp c h (by simp) (by simp )
 exact Xc hp c h (by simp) (by simp )
theorem yG(b:Nat)(j:1<=b)(f:b<=1000)(h:PK K ob p en S (λl=>.d (Xg l)) (Qq b ts)):Aa P 167 [.ptr p [],.d (.int .i64 b)] ob K:=by
 refine Ae hPp AT Zkq.1 Zkq.2 A6.nil λ_ c=>?_;simp[Zcj,hp,hS];refine Z3 hPp hS (by simp[hp]) (PK.bind h (λts' e h=>?_) (λa ts' g h=>?_))
 ·simp;exact Xc hp c h (by simp) (by simp[hp])
 simp[hp,hS];have i:IntKind.i64.wrap ((b:Int)-1)=((b-1:Nat):Int):=by grind[w_i]
 rw[i];refine Yzz hPp hS (by simp[hp]) (enc:=D.AV) (λ_=>rfl) (Xq 3 [44]) (do Ym [44];Yu) (b-1) (by omega) _ _ [] _ [] _ (J1 hPp).1 (J1 hPp).2.1 _ rfl (λts o K h=>?_) (λts o K h=>?_) (PK.bind h (λts' e h=>?_) (λl ts' g h=>?_))
 ·exact Yig hPp hS (p:=p) (ts:=ts) (en:=en) (by simp[hp]) (by simp[hp]) (by simpa[hp]using h)
 ·exact Yih hPp hS (p:=p) (ts:=ts) (en:=en) (by simp[hp]) (by simp[hp]) (by simpa  using h)
 ·exact Xc hp c h (by simp) (by simp[hp])
 have k:=fH g;simp[hp,show 1+l.length=l.length+1 by omega];refine⟨by omega,?_⟩;exact Xc hp c h (by simp) (by simp )
theorem Za7(b:Ez P)(h:PK K ob p en S (λx=>.d x.enc) (Ky ts)):Aa P 166 [.ptr p []] ob K:=by
 refine Ae hPp AT Zkp.1 Zkp.2 A6.nil λ_ c=>?_;simp[Zci,hp,hS,b.AX,b.AO,b.As,b.AQ,b.A8];refine Z2 hPp hS (by simp[hp]) _ _ (PK.bind h (λts' e h=>?_) (λa ts' f h=>?_))
 ·simp;exact Xc hp c h (by simp) (by simp[hp])
 cases a
 ·skip
  simp only[BY,CR,CP,Yc,Zi]at h;simp[hp,hS,b.AX,b.AO,b.As,b.AQ,b.A8];refine Z2 hPp hS (by simp[hp]) _ _ (PK.bind h (λts' e h=>?_) (λa ts' f h=>?_))
  ·simp;exact Xc hp c h (by simp) (by simp[hp])
  cases a
  ·skip
   simp only[BY,CR,CP,Yc,Zi]at h;simp[hp,hS,b.AX,b.AO,b.As,b.AQ,b.A8];refine Z2 hPp hS (by simp[hp]) _ _ (PK.bind h (λts' e h=>?_) (λa ts' f h=>?_))
   ·simp;exact Xc hp c h (by simp) (by simp[hp])
   cases a
   ·skip
    simp only[BY,CR,CP,Yc,Zi]at h;simp[hp,hS,b.AX,b.AO,b.As,b.AQ,b.A8];refine Z2 hPp hS (by simp[hp]) _ _ (PK.bind h (λts' e h=>?_) (λa ts' f h=>?_))
    ·simp;exact Xc hp c h (by simp) (by simp[hp])
    cases a
    ·skip
     simp only[BY,CR,CP,Yc,Zi]at h;simp[hp,hS,b.AX,b.AO,b.As,b.AQ,b.A8];refine U5 hPp hS (ts:=ts') (en:=en) (S:=S) (by simp[hp]) _ ?_;exact Xc hp c h (by simp) (by simp[hp])
    ·skip
     simp only[BY,CR,CP,Yc,Zi]at h;simp[hp,hS,b.AX,b.AO,b.As,b.AQ,b.A8];refine yG hPp hS (by simp[hp]) 16 (by decide) (by decide) (PK.bind h (λts' e h=>?_) (λl ts' f h=>?_))
     ·exact Xc hp c h (by simp) (by simp[hp])
     have i:=Xvj f;have g:IntKind.i64.wrap ((l.length:Int)-1)=(l.length:Int)-1:=w_i _ (by omega);simp[hp,Xg,g,TS];exact Xc hp c h (by simp) (by simp )
   ·skip
    simp only[BY,CR,CP,Yc,Zi]at h;simp[hp,hS,b.AX,b.AO,b.As,b.AQ,b.A8,TS];exact Xc hp c h (by simp) (by simp )
  ·skip
   simp only[BY,CR,CP,Yc,Zi]at h;simp[hp,hS,b.AX,b.AO,b.As,b.AQ,b.A8,TS];exact Xc hp c h (by simp) (by simp )
 ·skip
  simp only[BY,CR,CP,Yc,Zi]at h;simp[hp,hS,b.AX,b.AO,b.As,b.AQ,b.A8];refine Wd hPp hS (by simp[hp]) _ _ (PK.bind h (λts' e h=>?_) (λa ts' f h=>?_))
  ·simp;exact Xc hp c h (by simp) (by simp[hp])
  simp[hp,hS,b.AX,b.AO,b.As,b.AQ,b.A8];refine W1 hPp hS (by simp[hp]) _ (PK.bind h (λts' e h=>?_) (λa ts' f h=>?_))
  ·simp;exact Xc hp c h (by simp) (by simp[hp])
  simp[hp,hS,b.AX,b.AO,b.As,b.AQ,b.A8];refine Wd hPp hS (by simp[hp]) _ _ (PK.bind h (λts' e h=>?_) (λa ts' f h=>?_))
  ·simp;exact Xc hp c h (by simp) (by simp[hp])
  simp[hp,hS,b.AX,b.AO,b.As,b.AQ,b.A8];refine Z2 hPp hS (by simp[hp]) _ _ (PK.bind h (λts' e h=>?_) (λa ts' f h=>?_))
  ·simp;exact Xc hp c h (by simp) (by simp[hp])
  cases a
  ·skip
   simp only[BY,CR,CP,Yc,Zi]at h;simp[hp,hS,b.AX,b.AO,b.As,b.AQ,b.A8,TS];exact Xc hp c h (by simp) (by simp )
  ·skip
   simp only[BY,CR,CP,Yc,Zi]at h;simp[hp,hS,b.AX,b.AO,b.As,b.AQ,b.A8];refine Z3 hPp hS (by simp[hp]) (PK.bind h (λts' e h=>?_) (λa ts' f h=>?_))
   ·simp;exact Xc hp c h (by simp) (by simp[hp])
   simp[hp,hS,b.AX,b.AO,b.As,b.AQ,b.A8,TS];exact Xc hp c h (by simp) (by simp )
theorem Yzu(b:Ez P)(h:PK K ob p en S (λx=>.d x.enc) (Mr ts)):Aa P 75 [.ptr p []] ob K:=by
 refine Ae hPp AT Z1u.1 Z1u.2 A6.nil λ_ c=>?_;simp[Zv7,hp,hS,b.AX,b.AO,b.As,b.AQ,b.A8];refine W1 hPp hS (by simp[hp]) _ (PK.bind h (λts' e h=>?_) (λa ts' f h=>?_))
 ·simp;exact Xc hp c h (by simp) (by simp[hp])
 simp[hp,hS,b.AX,b.AO,b.As,b.AQ,b.A8];refine Z3 hPp hS (by simp[hp]) (PK.bind h (λts' e h=>?_) (λa ts' f h=>?_))
 ·simp;exact Xc hp c h (by simp) (by simp[hp])
 simp[hp,hS,b.AX,b.AO,b.As,b.AQ,b.A8];refine Y1 hPp hS (by simp[hp]) _ (PK.bind h (λts' e h=>?_) (λa ts' f h=>?_))
 ·simp;exact Xc hp c h (by simp) (by simp[hp])
 simp[hp,hS,b.AX,b.AO,b.As,b.AQ,b.A8];refine Za7 hPp hS (by simp[hp]) b (PK.bind h (λts' e h=>?_) (λa ts' f h=>?_))
 ·simp;exact Xc hp c h (by simp) (by simp[hp])
 simp[hp,hS,b.AX,b.AO,b.As,b.AQ,b.A8];refine Xtr hPp hS (by simp[hp]) b (PK.bind h (λts' e h=>?_) (λl ts' f h=>?_))
 ·exact Xc hp c h (by simp) (by simp[hp])
 obtain⟨g,i,j,k,rfl⟩:=eA f;simp[hp];refine Y1 hPp hS (by simp[hp]) _ (PK.bind h (λts' e h=>?_) (λa ts' f h=>?_))
 ·simp;exact Xc hp c h (by simp) (by simp[hp])
 simp[hp,hS,b.AX,b.AO,b.As,b.AQ,b.A8];exact Xc hp c h (by simp) (by simp[hp])
theorem Ynk(h:PK K ob p en S (λx=>.d x.enc) (PD ts)):Aa P 76 [.ptr p []] ob K:=by
 refine Ae hPp AT Z1v.1 Z1v.2 A6.nil λ_ b=>?_;simp[Zv8,hp,hS];refine W1 hPp hS (by simp[hp]) _ (PK.bind h (λts' e h=>?_) (λa ts' c h=>?_))
 ·simp;exact Xc hp b h (by simp) (by simp[hp])
 simp[hp,hS];refine yG hPp hS (by simp[hp]) 11 (by decide) (by decide) (PK.bind h (λts' e h=>?_) (λl ts' c h=>?_))
 ·exact Xc hp b h (by simp) (by simp[hp])
 simp[hp,Xg];refine W1 hPp hS (by simp[hp]) _ (PK.bind h (λts' e h=>?_) (λa ts' c h=>?_))
 ·simp;exact Xc hp b h (by simp) (by simp[hp])
 simp[hp,hS];refine Z3 hPp hS (by simp[hp]) (PK.bind h (λts' e h=>?_) (λa ts' c h=>?_))
 ·simp;exact Xc hp b h (by simp) (by simp[hp])
 simp[hp,hS];refine Y1 hPp hS (by simp[hp]) _ (PK.bind h (λts' e h=>?_) (λa ts' c h=>?_))
 ·simp;exact Xc hp b h (by simp) (by simp[hp])
 simp[hp,hS];exact Xc hp b h (by simp) (by simp[hp])
end
attribute [local simp] CZ CF
attribute [local simp ↓] ql qn qo qi qh qj qk qm wg zy we wh wc zt zu zr zx zw qq qp qy qz zn zb qx qr zo qw qv qt zd zi zf zj zl zm wo wj wq wp qb qa qd qc qe qg qf zq zp
section
variable {P:BE} (hPp:P.p=prog) (hI:Ez P) {ts:List Ay} {en:Int} {s:Bm} (hs:JO s) {K:BQ->AE->Prop}
include hPp hI hs
theorem Ynl(h:PS K en (PF s ts)):Aa P 20 [.ptr 4 []] (GW en ts s) K:=by
 refine Ae hPp AT Z0o.1 Z0o.2 A6.nil λ_ c=>?_;simp[Zu6,hI.AX,hI.AO,hI.As,hI.AQ,hI.A8];refine N9 hPp (S:=Zn s) (by simp) (by simp) _ 8 (PS.bind h (λts' e h=>?_) (λa ts' b h=>?_))
 ·simp;exact Xt (h s) (by simp) (by simp[AF])
 simp[hI.AX,hI.AO,hI.As,hI.AQ,hI.A8];refine W1 hPp (S:=Zn s) (by simp) (by simp) _ (PS.bind h (λts' e h=>?_) (λa ts' b h=>?_))
 ·simp;exact Xt (h s) (by simp) (by simp[AF])
 simp[hI.AX,hI.AO,hI.As,hI.AQ,hI.A8];refine⟨?_,?_⟩
 ·skip
  refine Z3 hPp (S:=Zn s) (by simp) (by simp) (PS.bind h (λts' e h=>?_) (λa ts' b h=>?_))
  ·simp;exact Xt (h s) (by simp) (by simp[AF])
  simp[hI.AX,hI.AO,hI.As,hI.AQ,hI.A8];refine⟨by have:=hs.AR;omega,?_⟩;refine Y1 hPp (S:=Zn {s with AR:=s.AR++[a] }) (by simp) (by simp) _ (PS.bind h (λts' e h=>?_) (λa ts' b h=>?_))
  ·simp;exact Xt (h {s with AR:=s.AR++[a] }) (by simp) (by simp[AF])
  simp[hI.AX,hI.AO,hI.As,hI.AQ,hI.A8];exact Xt h (by simp) (by simp)
 ·skip
  refine Z3 hPp (S:=Zn s) (by simp) (by simp) (PS.bind h (λts' e h=>?_) (λa ts' b h=>?_))
  ·simp;exact Xt (h s) (by simp) (by simp[AF])
  simp[hI.AX,hI.AO,hI.As,hI.AQ,hI.A8];refine⟨by have:=hs.AR;omega,?_⟩;refine Y1 hPp (S:=Zn {s with AR:=s.AR++[a] }) (by simp) (by simp) _ (PS.bind h (λts' e h=>?_) (λa ts' b h=>?_))
  ·simp;exact Xt (h {s with AR:=s.AR++[a] }) (by simp) (by simp[AF])
  simp[hI.AX,hI.AO,hI.As,hI.AQ,hI.A8];exact Xt h (by simp) (by simp)
end
end
end Go.Ab
