/- Joined texts, part 5 of 19. Contract: names.numberPurpose. Condition: the program is the seat's. -/
import Derived.Test.YtfedhegpmfkfoaaGreatDoorG3
import Derived.Test.YtfedhegpmfkfoaaGreatDoorG4
import Derived.Test.YtfedhegpmfkfoaaGreatDoorProg
import Derived.KernelRfl
set_option maxRecDepth 100000
set_option linter.unusedSimpArgs false
set_option linter.unusedVariables false
set_option linter.unusedSectionVars false
set_option linter.defProp false
namespace Go.Ab
open Go Go.Proofs
def IJ (y:Ah)(u:At):Bool:=decide (1<=u.BP)&&decide (u.BP<=1099511627776)&&decide (0<=u.base)&&(match y.Au[u.base.toNat]? with|some v=>decide (v.BP=1)|none=>false)
section
variable {P:Az} (hP:P.p=Tryz.prog)
include hP
theorem X96 {y:Ah}(u:At){l:AB}{K:V->Prop}(h:K (.d (.bool (IJ y u)))):AU P 30 [.d (.agg [y.enc]),.d u.enc] l K:=by
 refine AJ hP AO (ds:=[.agg [y.enc],u.enc]) Zng Zjm BD.nil ?_;obtain⟨n,o,f,b,s⟩:=u;simp only[IJ]at h;by_cases a:1<=s
 ·by_cases c:s<=1099511627776
  ·by_cases k:0<=b
   ·obtain⟨i,rfl⟩:∃i:Nat,b=i:=⟨b.toNat,by omega⟩
    by_cases e:i<y.Au.length
    ·by_cases g:y.Au[i].BP=1
     ·simp[Pe,Ah.enc,Xg,At.enc,a,c,e,g]at h⊢;exact h
     ·have j:(y.Au[i].BP==1)=false:=by simpa using g
      simp[Pe,Ah.enc,Xg,At.enc,a,c,e,g,j]at h⊢;exact h
    ·simp[Pe,Ah.enc,Xg,At.enc,a,c,e]at h⊢;exact h
   ·simp[Pe,Ah.enc,Xg,At.enc,a,c,k]at h⊢;exact h
  ·simp[Pe,Ah.enc,Xg,At.enc,a,c]at h⊢;exact h
 ·simp[Pe,Ah.enc,Xg,At.enc,a]at h⊢;exact h
end
def n8:Nat:=0x1b8b0382d7092a01001aa55680250098427da00202200d8422840010231c084205805c8428773ea06025cb2a601c483e421503d4e802100d21503d1576e183c5fac8d2bf0162550ca1f500201f3c20ca0001ea0201c00000ca058562319079011b8c27d0002c023630f00d1b60cb1c005805c00b5858ab24f5643fb00a08f05800001b01700bacf14e250092bfd73e09301a16e4c724ab0d7c88ec15a01a0d902e5df1c9b3207b09a581648
def oy:S:=zS [] n8
theorem ok8:Xr Tryz.prog 8 1 oy [.t 2]=true:=by kernel_rfl
def Yfc:Nat:=0x1000bf8022019072018284aaa00c73ba3502131a06002086101c00202600e80bac50c804d00401d01f00609531a0da01b06b01432b02aa0442004d0189c61bc01908101931a060a2100d01a080
def pF:Nat:=0x1ac8bf80aebf80979c60150590e90166d258400c73b7a30528706b972bbb72e901127cc102e906025c8f71b60690aa72b00c21747200b04c47200a07900909c1ad47200824000717b0ce0057345dc01005a3dab72
def jJ:S:=zS [(zS [] Yfc)] pF
theorem Zm5:Xr Tryz.prog 10 1 jJ [.t 2]=true:=by kernel_rfl
def n26:Nat:=0x10731210c70f300903603611200203500dc844d304002c91c3b902a9df0520290699ec2a30282172765e0276b1488680327653e7db62706901d00822d0212173c102004c3c101f0793c101e1ad3c153e3c198a01b95422d01a21711874a8180797f319a11853eb336b922d0132172e901227c03d0110792e90101512e953e8f71b606900819637e00c2176f904c10600a07944a41010604a2080a42a33ee13c06b1f304a0283baa06108
def jZ:S:=zS [] n26
theorem Znc:Xr Tryz.prog 26 1 jZ [.t 2]=true:=by kernel_rfl
def n27:Nat:=0x17c105c01c5c30040b63661c915a1bd5e407b05c0d276802d243
def ja:S:=zS [] n27
theorem Znd:Xr Tryz.prog 27 2 ja [.t 3]=true:=by kernel_rfl
def Yff:Nat:=0x19048c102e4ac181b6402f77347f8c1b2e0b34d102904173f02b06e4fc02a08aac300602a7e746a0280f00288f40080632af02711d0210ba02619f730a723cb6020621a37300242b273000815102105b1ca05c73007b1917300200de01f9af33f01eacd5e301d2c95e3008410b2210f19f00a87600f28a47f7b83ec0090190de01819f46700a29a0116500110410194ee0173570760164ec5b60418e801508aac309e01208836d0400137eb09547f008063167b7a07ec5d1aa00f89a00d04116b50c00e1ae00e8f4063167a420ed00f1b0
def Yfg:Nat:=0x1b863be02101a072019627bb302004c02062c06001f10c01d0491a304d19107bb03581b860da01c4c92188c96d302e98b1916c3b9c01a08115f14106001801900d01b080
def pJ:Nat:=0x10739200c702f9e91a300603007607a13047f3ecb579048c13176f808a88811b05c00a0b14d40631860301863a34bc3b9c8f1390754c611d0e53530411480e729913f005088070299ba403009f2c903015d0411ad03009c0de25700311c78486606a784b0c299ae4aba7840b907678412d1512990fb0950306ea0360207841361ad030c8129912105302c069a3d1120284df41eac141e02b07941e02a15141e02909541e53e41e18441e02616402500d13c9b176531a1f50654280a379600001c0452a20520240d7c7c19905c4ce06f05f62c3be0ae62c3be09701700401604601514505c0165328f37a305287000e0082a3bb72670110fdc109a819a00ec81bf933b1910372e03c480f3ba225108
def jb:S:=zS [(zS [] Yfg),(zS [] Yff)] pJ
theorem Zne:Xr Tryz.prog 28 1 jb [.t 2]=true:=by kernel_rfl
def n29:Nat:=0x193b099a9d047962021874
def jO:S:=zS [] n29
theorem Znf:Xr Tryz.prog 29 2 jO [.t 4]=true:=by kernel_rfl
def n31:Nat:=0x193b857a9d131962023874
def jQ:S:=zS [] n31
theorem Znh:Xr Tryz.prog 31 2 jQ [.t 4]=true:=by kernel_rfl
def Yfh:Nat:=0x1c1b85701318318100a0de37b2cc0120f02b0c0a22801111d00f0ba01204bb7a21786a39c86aa5216400d422bee07633ec1b0082280c110c00a19f06e004b1324900b1ae00b038c0a22821278f0841b0
def cX:Nat:=0x10003007f10de18112f42a77300ac0a002b57c1b85709700870b1e1a8a0b107ab450070f000749d6b409a19f0051c706713900e0044dba790480ce06a4d43001fe00225778d00729a8e512f0fbb9c0000c51f849d07c12d12f12c1b0
def pK:Nat:=0x12653000990ae3000990970fb0041488530356d20c30bfb0c0330bbaca7e91721360e71cdb341cd1210951cd0f34101cd05711200b1908baa03462a4d069a1472b02821734d5e034db1402546234d3d606937413f02200d0700f4a35b5601f46237a5da06901a07e93401c2177d607901a53c5b70000180693fe13f7cd0707d36df53cc8800c1d800e4df216011140c1021600f0952167166da07900c51b5fe1649000091a66bb02002b469036958
def jR:S:=zS [(zS [(zS [] Yfh)] cX)] pK
theorem Zni:Xr Tryz.prog 32 2 jR [.t 4]=true:=by kernel_rfl
def n33:Nat:=0x193ba8aa9d05f96201d874
def jS:S:=zS [] n33
theorem Znj:Xr Tryz.prog 33 2 jS [.t 4]=true:=by kernel_rfl
def n34:Nat:=0x193b00203576e1a5962026874
def jT:S:=zS [] n34
theorem Znk:Xr Tryz.prog 34 2 jT [.t 4]=true:=by kernel_rfl
def Yfi:Nat:=0x1000bac8129f000001c2cc6c534e1560190aa01ab3c34e00815601837000746700829a0100a40100180250162821f50118e801453308b012533289a1d01f00c09534e00615600f0ce01492b4310c204d5340041bc00d081ad515600b31800e080
def pL:Nat:=0x10780232419da19637e02116e51801f36a37a16401d22f01c1a604e88486bbac0aebac05705f004009711abb18f044c76958
def jU:S:=zS [(zS [] Yfi)] pL
theorem Znl:Xr Tryz.prog 35 2 jU [.t 4]=true:=by kernel_rfl
def Yfk:Nat:=0x1000c1101f7b01b17560f214d0d70d74cc00631c22802d0094c604701c3bf2446c50f200714d008019954141ab5a0e118268118184b332bf15e4df0116ea0ca26827d1640db4c601054728a0f2007b4e00e2264b9b7fb4e7be
def pN:Nat:=0x107803372f12aaff1361ca24b8c3ab50380c224b12105902dba624b5dfb4b08502ba3d02a02976e02740f41e028059027ba641e02608502502222e02488da9e022ba654e0403c70200cd00502101e015aa2c110aec11af70042a109176718f0470480703c7043899000231243
def jX:S:=zS [(zS [] Yfk)] pN
theorem Zno:Xr Tryz.prog 38 2 jX [.t 4]=true:=by kernel_rfl
def n53:Nat:=0x194aad4c59
def jw:S:=zS [] n53
theorem Zf2:Xr Tryz.prog 53 2 jw [.t 4]=true:=by kernel_rfl
def n54:Nat:=0x10730060c7caf0051eb06b003b600d2193b81
def jx:S:=zS [] n54
theorem Zny:Xr Tryz.prog 54 1 jx [.t 2]=true:=by kernel_rfl
def Yfy:Nat:=0x1000bb406b405072017047038bb30030c504403871f06000211d12f0081720012fa3f10002c93f10050953f19e60fb23403689b71f8c114800087b46700629a1120a411203402512a02e01e1368c3c000701210f1004145adba2500b042230ac102c71f49a0939b60e17fa6f405402a6d28f37b702871f0042300270693740260214df0f47900f47350f40231510f40220950f453eb560f400415137a16401d17b8013eb88400d28a71f49a8a90048d00190e011952ab0742008d01701535301728e01808131a0159f97cd019080
def pT:Nat:=0x188fbb40040aebb40040970153450460139c80565328f381505201106926c17201021721600f14003d00e0796da15100cc815fe240900bd400710705c00802000c3ba225108
def jy:S:=zS [(zS [] Yfy)] pT
theorem Znz:Xr Tryz.prog 55 1 jy [.t 2]=true:=by kernel_rfl
def Yfz:Nat:=0x1000bae4d10151810140de02d0382cc02b0f002b03852613c053be00ba02919f00184b8f984b0270de02611d0230ba172025acd02305b0242c902305b07a28405b602a347270e102008a2700217eb0955260cd00501f0ed3ef11d0ab00825001dacd5bf01c2c95bfb5b5bf3a8240a2d0e10187ea0400190b14fa526a8701718346700c02e0163990563570415c22490151ae21152613c0134ec0ed0161b0
def Yf0:Nat:=0x10009590fbc7d0000361db
def c0:Nat:=0x120e9591480d71551360101b414b00fae4135a4508d05ca0aa051af16606273e031051b4596d1af0aa0050620090530f37e91121ca8ba1670390c21cd0075a6a4d37502a33a28a1af1b3005062009028000a3d4671aa00101f0a401f0288ac4b20252d6c00024004c7c2eb3f50070f19ef40900d0951afa130620b3a1321803033501d0f154bba9c360056b8c92
def pU:Nat:=0x1896130bae5aebae9d20c50050132100c30bf0110f00110df0540108a305300f0b50ba36200e19f43500d29c0e81c700842743500c39900ec0400939900bc04006399008c0413fbcd3f32ae00c0764355b02573f32aebc743507443576957c2507460e13620020c50432ae57c45116412f0e112d27903701e0d10e333b7ec07d38d7400451bd9590ae959c3d3470160451191192a20120170f171904e0150f12d2016a8805a2cb03000614b00c01d04ab457a30bb870010749bb74aeb8533871e24000e17b00d1a683856846947113b2251a0
def jz:S:=zS [(zS [(zS [] Yf0)] c0),(zS [] Yfz)] pU
theorem Zn0:Xr Tryz.prog 56 2 jz [.t 4]=true:=by kernel_rfl
def n58:Nat:=0x109b3a870e0194ec0bab634acae805b01708a05658b1073e601508a05650f1079d33810120ed0ba01104100f0fe0588b30101508b3b9b8b300e15000d50f1078b30c1085bcd0ba00a0ba67600605b00915000658b9c850f15000650f1990062ae38176912f2060880fe05803715d1503f1b9b3f10001503f10071993f112d0850fb0e500814812a0021e90c22991550592990044d32991360592990074d32991210850f3029008a940b24cf0c90594cf00411b4cf02a0594cf00711b4cf0280850276f60260240b21da0250591da06f001a9e1da0073e354e0b40228405a7298020000a6246700829a0170a401702002501e01859a7d4c0001c004a9701aa113f50050f105800b01901f00d3a209b01670e0154ea42816e13e01305913ebc882d13e00511bbbf22f4b904d05200b5cd7282098ef009167427005060741002b890540530450301d714b13b01cacc
def j1:S:=zS [] n58
theorem Zn2:Xr Tryz.prog 58 3 j1 [.t 6]=true:=by kernel_rfl
def Yf1:Nat:=0x100060d014c9b00304db8f78541f0139377a80f21b52c200f0a261c41fc300f200513c00e355046b7f13c7be
def pW:Nat:=0x188f60d0ae60d057245096889c6709301301d604aa80a2146
def j2:S:=zS [(zS [] Yf1)] pW
theorem Zn3:Xr Tryz.prog 59 1 j2 [.t 2]=true:=by kernel_rfl
def n60:Nat:=0x1c4c009c59
def j3:S:=zS [] n60
theorem Zn4:Xr Tryz.prog 60 2 j3 [.t 4]=true:=by kernel_rfl
def n61:Nat:=0x19865e400196539b243
def j4:S:=zS [] n61
theorem Zn5:Xr Tryz.prog 61 2 j4 [.t 3]=true:=by kernel_rfl
def n62:Nat:=0x1c4c00c58a903
def j5:S:=zS [] n62
theorem Zn6:Xr Tryz.prog 62 2 j5 [.t 4]=true:=by kernel_rfl
def n63:Nat:=0x198604836d965036243
def j6:S:=zS [] n63
theorem Zn7:Xr Tryz.prog 63 2 j6 [.t 3]=true:=by kernel_rfl
def n65:Nat:=0x1c4c00bc59
def j8:S:=zS [] n65
theorem Zn9:Xr Tryz.prog 65 2 j8 [.t 4]=true:=by kernel_rfl
def n66:Nat:=0x19865e400196502d243
def j9:S:=zS [] n66
theorem Zoa:Xr Tryz.prog 66 2 j9 [.t 3]=true:=by kernel_rfl
def n67:Nat:=0x19860482d2965211243
def kA:S:=zS [] n67
theorem Zob:Xr Tryz.prog 67 2 kA [.t 3]=true:=by kernel_rfl
def n70:Nat:=0x107830c05d3c700800b0623c70071b506300a0580d033e1ff
def jc:S:=zS [] n70
theorem Zod:Xr Tryz.prog 70 2 jc [.t 4]=true:=by kernel_rfl
def s8:Nat:=0x1b8654302601a0720190000272cc790406141b4e0240094ce01f80b0201770227d90c64f3006851a4937409562c18a58f01d00744e01b0b33883354c41916c300b28128e01a08115f14114d6fe01900d01b080
def kN:Nat:=0x107803172f0e502a0081721210b25770f30595771123e35770c91995770579cc05c5775df5770291640281eb027279028547aa262c5430ae62c5430970172790184ba2660160d7a550140c815e00605c168046091012a883a20bf63f26600f0691f07cb22f7fd00d04ca410467fd0911bd6ea27a1642e605810c00905a50008f5da243
def lT:S:=zS [(zS [] s8)] kN
theorem Y9f:Xr Tryz.prog 116 2 lT [.t 4]=true:=by kernel_rfl
def Zez:Nat:=0x109b84370e00a1c70ba0092570410b200305b00804149450f15000358b0e92662ae04149458b1500039c50e926605b002381b091480558060b244612f059446bc84460fb05903436a44615508512aaff1361210b224b0e505924bb9b24b0f305924b463b4b1649cc06202c7d53a209b02a70e0299ec7f90b22764f427600411b8860590245017db0850229c902101d0b2ae101f50e01bb0a19201e05901b36a9d8059192bc87f52150150e114104404901671117804604d05201804270a5411a40120696b92500114762e95192e93388f724000d0e100c1a604000d5680c30e4bbe0041a41f00cdba006f4684d43f20530b300114b01159c2e807a
def lU:S:=zS [] Zez
theorem Y9g:Xr Tryz.prog 117 3 lU [.t 6]=true:=by kernel_rfl
def Ze2:Nat:=0x150800202022601f6c00cb0a433a4cc0138e801c04301e01f01a0460190910180163536e301542c1b70e22830040548843eb01846fa1105c742270a4a5802c11b300604d00a1b5a1c0b6b712260116c005c87863f0ce1d200f0691767ec4df0ec1f8c540041512d316400917b2a10040911590490ce062554044b8a00729a03013b01cacc
def mY:S:=zS [] Ze2
theorem Y9m:Xr Tryz.prog 126 3 mY [.c 6 6 true,.t 7]=true:=by kernel_rfl
def Ze3:Nat:=0x1b959c0c0800d16e98522e00888d4243b61825df04b4c905404605204e00eba5
def mZ:S:=zS [] Ze3
theorem Y9n:Xr Tryz.prog 127 1 mZ [.t 2]=true:=by kernel_rfl
def tG:Nat:=0x19720f578ac27983b6ba61c70
def kR:Nat:=0x19c1
def mf:S:=zS [(zS [] tG)] kR
theorem Y9p:Xr Tryz.prog 129 2 mf [.t 4]=true:=by kernel_rfl
def tH:Nat:=0x19720f578ac27983b6ba61c70
def kS:Nat:=0x19c1
def mh:S:=zS [(zS [] tH)] kS
theorem Y9r:Xr Tryz.prog 131 2 mh [.t 4]=true:=by kernel_rfl
def Zfk:Nat:=0x14e402510c0530245686e416e3ea4da3ea00a107020824b2a0857d500801d01c16e01a8247d6bcf00a199c743fe21b0021390c22ba27836d2ba1ca36d6de0b43a484405f0aa1d201310c01200a46700b29a00d0a442902501100e01e2528e85160890e200f80f04208983033b8ec15aa063a500b0431c9b322ef42e06f06108655410c5da00502f074
def nR:S:=zS [] Zfk
theorem Zan:Xr Tryz.prog 216 4 nR [.t 8]=true:=by kernel_rfl
def lt8:S2:=zL [] [] n8
def Et8:=(by cbv:lt8=_)
theorem lf8:oy.AZ []=some lt8:=by kernel_rfl
def gj:S2:=zL [] [] Yfc
def Xyz:=(by cbv:gj=_)
def Zc8:S2:=zL [] [gj] pF
def XB:=(show Zc8=_ from (λ(a:S2)=>(by cbv:zL [] [a] pF=_)) gj)
theorem Zjb:jJ.AZ []=some Zc8:=by kernel_rfl
def Zdf:S2:=zL [] [] n26
def Zgx:=(by cbv:Zdf=_)
theorem Zji:jZ.AZ []=some Zdf:=by kernel_rfl
def Zdg:S2:=zL [] [] n27
def Zgy:=(by cbv:Zdg=_)
theorem Zjj:ja.AZ []=some Zdg:=by kernel_rfl
def gr:S2:=zL [] [] Yff
def Xy3:=(by cbv:gr=_)
def gu:S2:=zL [] [] Yfg
def Xy4:=(by cbv:gu=_)
def Zdh:S2:=zL [] [gu,gr] pJ
def Zgz:=(show Zdh=_ from (λ(a b:S2)=>(by cbv:zL [] [a,b] pJ=_)) gu gr)
theorem Zjk:jb.AZ []=some Zdh:=by kernel_rfl
def Zdi:S2:=zL [] [] n29
def Zg0:=(by cbv:Zdi=_)
theorem Zjl:jO.AZ []=some Zdi:=by kernel_rfl
def Zdk:S2:=zL [] [] n31
def Zg1:=(by cbv:Zdk=_)
theorem Zjn:jQ.AZ []=some Zdk:=by kernel_rfl
def gw:S2:=zL [] [] Yfh
def Xy5:=(by cbv:gw=_)
def gx:S2:=zL [] [gw] cX
def Xy6:=(show gx=_ from (λ(a:S2)=>(by cbv:zL [] [a] cX=_)) gw)
def Zdl:S2:=zL [] [gx] pK
def Mp:=(show Zdl=_ from (λ(a:S2)=>(by cbv:zL [] [a] pK=_)) gx)
theorem Zjo:jR.AZ []=some Zdl:=by kernel_rfl
def Zdm:S2:=zL [] [] n33
def Zg2:=(by cbv:Zdm=_)
theorem Zjp:jS.AZ []=some Zdm:=by kernel_rfl
def Zdn:S2:=zL [] [] n34
def Zg3:=(by cbv:Zdn=_)
theorem Zjq:jT.AZ []=some Zdn:=by kernel_rfl
def gy:S2:=zL [] [] Yfi
def Xy7:=(by cbv:gy=_)
def Zdo:S2:=zL [] [gy] pL
def Zg4:=(show Zdo=_ from (λ(a:S2)=>(by cbv:zL [] [a] pL=_)) gy)
theorem Zjr:jU.AZ []=some Zdo:=by kernel_rfl
def hC:S2:=zL [] [] Yfk
def VJ:=(by cbv:hC=_)
def Zdr:S2:=zL [] [hC] pN
def Zg7:=(show Zdr=_ from (λ(a:S2)=>(by cbv:zL [] [a] pN=_)) hC)
theorem Zju:jX.AZ []=some Zdr:=by kernel_rfl
def Zd2:S2:=zL [] [] n53
def Zbk:=(by cbv:Zd2=_)
theorem Zc3:jw.AZ []=some Zd2:=by kernel_rfl
def Zd3:S2:=zL [] [] n54
def Zhd:=(by cbv:Zd3=_)
theorem Zj4:jx.AZ []=some Zd3:=by kernel_rfl
def iF:S2:=zL [] [] Yfy
def Xzi:=(by cbv:iF=_)
def Zd4:S2:=zL [] [iF] pT
def iy:=(show Zd4=_ from (λ(a:S2)=>(by cbv:zL [] [a] pT=_)) iF)
theorem Zj5:jy.AZ []=some Zd4:=by kernel_rfl
def iG:S2:=zL [] [] Yfz
def R1:=(by cbv:iG=_)
def iI:S2:=zL [] [] Yf0
def Xzk:=(by cbv:iI=_)
def iH:S2:=zL [] [iI] c0
def Xzj:=(show iH=_ from (λ(a:S2)=>(by cbv:zL [] [a] c0=_)) iI)
def Zd5:S2:=zL [] [iH,iG] pU
def iz:=(show Zd5=_ from (λ(a b:S2)=>(by cbv:zL [] [a,b] pU=_)) iH iG)
theorem Zj6:jz.AZ []=some Zd5:=by kernel_rfl
def Zd7:S2:=zL [] [] n58
def Zhe:=(by cbv:Zd7=_)
theorem Zj8:j1.AZ []=some Zd7:=by kernel_rfl
def iJ:S2:=zL [] [] Yf1
def Xzl:=(by cbv:iJ=_)
def Zd8:S2:=zL [] [iJ] pW
def Zhf:=(show Zd8=_ from (λ(a:S2)=>(by cbv:zL [] [a] pW=_)) iJ)
theorem Zj9:j2.AZ []=some Zd8:=by kernel_rfl
def Zd9:S2:=zL [] [] n60
def Zhg:=(by cbv:Zd9=_)
theorem Zka:j3.AZ []=some Zd9:=by kernel_rfl
def Zea:S2:=zL [] [] n61
def Zhh:=(by cbv:Zea=_)
theorem Zkb:j4.AZ []=some Zea:=by kernel_rfl
def Zeb:S2:=zL [] [] n62
def Zhi:=(by cbv:Zeb=_)
theorem Zkc:j5.AZ []=some Zeb:=by kernel_rfl
def Zec:S2:=zL [] [] n63
def Zhj:=(by cbv:Zec=_)
theorem Zkd:j6.AZ []=some Zec:=by kernel_rfl
def Zee:S2:=zL [] [] n65
def Zhk:=(by cbv:Zee=_)
theorem Zkf:j8.AZ []=some Zee:=by kernel_rfl
def Zef:S2:=zL [] [] n66
def Zhl:=(by cbv:Zef=_)
theorem Zkg:j9.AZ []=some Zef:=by kernel_rfl
def Zeg:S2:=zL [] [] n67
def Zhm:=(by cbv:Zeg=_)
theorem Zkh:kA.AZ []=some Zeg:=by kernel_rfl
def Zej:S2:=zL [] [] n70
def Zho:=(by cbv:Zej=_)
theorem Zkj:jc.AZ []=some Zej:=by kernel_rfl
def fE:S2:=zL [] [] s8
def yN:=(by cbv:fE=_)
def Yve:S2:=zL [] [fE] kN
def kz:=(show Yve=_ from (λ(a:S2)=>(by cbv:zL [] [a] kN=_)) fE)
theorem Y6m:lT.AZ []=some Yve:=by kernel_rfl
def Yvf:S2:=zL [] [] Zez
def k9:=(by cbv:Yvf=_)
theorem Y6n:lU.AZ []=some Yvf:=by kernel_rfl
def Yvn:S2:=zL [] [] Ze2
def lD:=(by cbv:Yvn=_)
theorem Y6t:mY.AZ []=some Yvn:=by kernel_rfl
def Yvo:S2:=zL [] [] Ze3
def Y00:=(by cbv:Yvo=_)
theorem Y6u:mZ.AZ []=some Yvo:=by kernel_rfl
def eR:S2:=zL [] [] tG
def yC:=(by cbv:eR=_)
def Yvq:S2:=zL [] [eR] kR
def Y01:=(show Yvq=_ from (λ(a:S2)=>(by cbv:zL [] [a] kR=_)) eR)
theorem Y6w:mf.AZ []=some Yvq:=by kernel_rfl
def eS:S2:=zL [] [] tH
def yD:=(by cbv:eS=_)
def Yvs:S2:=zL [] [eS] kS
def Y03:=(show Yvs=_ from (λ(a:S2)=>(by cbv:zL [] [a] kS=_)) eS)
theorem Y6y:mh.AZ []=some Yvs:=by kernel_rfl
def Ywo:S2:=zL [] [] Zfk
def Y1j:=(by cbv:Ywo=_)
theorem Y7p:nR.AZ []=some Ywo:=by kernel_rfl
def Q8 {b:Type}(p:b->Bool):List b->Nat->Int
|[],_=>-1
|a::r,k=>if p a=true then (k:Int) else Q8 p r (k+1)
theorem Q9 {b:Type}(p:b->Bool):∀(l:List b)(k:Nat),decide (0<=Q8 p l k)=l.any p
|[],_=>by simp[Q8]
|a::r,k=>by
 rw[Q8,List.any_cons];cases h:p a with
 |true=>simp
 |false=>simpa using Q9 p r (k+1)
section
variable {P:Az} (hP:P.p=Tryz.prog)
include hP
theorem X0s:Xd P.p 30=true:=by rw[hP];kernel_rfl
theorem Yi6:Xd P.p 61=true:=by rw[hP];kernel_rfl
abbrev ME (c:D)(o1 o0:Ob):AB:=[(2,.box 89 (.d (.fn 30 [c] []))),(1,o1),(0,o0)]
theorem Yr6 {y:Ah}{x:At}{c b:Ob}{K:A7->AB->Prop}(h:K (.ret (.d (.bool (!IJ y x)))) (ME (.agg [y.enc]) c b)):AV P 61 [.d x.enc,.ptr 2 []] (ME (.agg [y.enc]) c b) K:=by
 refine Aq hP AO Zn5 Zkb BD.nil λ_ e=>?_;simp[Zhh,X0s hP];have a:=e [];simp[fresh]at a;refine⟨⟨by rw[CC];rfl,rfl⟩,AU.Bm (X96 hP x ?_)⟩;simp;refine⟨[],by simp,?_,?_⟩
 ·simp[AE];simpa[AE]using a
 ·simpa[AE]using h
theorem Yr2 {y:Ah}{l:List At}(p:l.length<=9223372036854775807){g f:Ob}{K:A7->AB->Prop}(h:K (.ret (.d (.int .i64 (Q8 (λx=>!IJ y x) l 0)))) (ME (.agg [y.enc]) g f)):AV P 129 [.d (.AF 5 (l.map At.enc)),.fn 61 [] [.ptr 2 []]] (ME (.agg [y.enc]) g f) K:=by
 have u:∀{k n:Nat},k<n->n<=9223372036854775807->IntKind.i64.wrap ((k:Int)+1)=(k:Int)+1:=λj m=>IntWalk.i64_in _ (by omega);refine Aq hP AO Y9p Y6w BD.nil λ_ q=>?_;have b:=q [];simp[fresh]at b;have o:∀{v:V},BO (AE 3 []) [v]=false->K (.ret v) (ME (.agg [y.enc]) g f)->X0 3 (K (.ret v)) [v] (ME (.agg [y.enc]) g f):=λj m=>⟨[],j,by simpa[AE]using b,by simpa[AE]using m⟩;simp[Y01];refine Ae.go (ι:=Nat) (λk=>[(0,.d (.AF 5 (l.map At.enc))),(1,.fn 61 [] [.ptr 2 []]),(7,.d (.int .i64 l.length)),(8,.d (.int .i64 k))]) (λ_=>ME (.agg [y.enc]) g f) (λk=>k<=l.length/\Q8 (λx=>!IJ y x) l 0=Q8 (λx=>!IJ y x) (l.drop k) k) (λk=>l.length-k) 0 ⟨DM _,rfl⟩ (by simp) (by simp) ?_;rintro k ⟨w,c⟩ R s r t z;by_cases a:k<l.length
 ·rw[Db a]at c;simp[yC,a,Yi6 hP];refine⟨⟨rfl,rfl⟩,Yr6 hP ?_⟩;cases e:IJ y l[k]with
  |false=>
   simp;refine t _ _ ?_;simp;have i:=h;rw[c,Q8,BL (by simp[e])]at i;exact o (by simp) i
  |true=>
   rw[Q8,Af (by simp[e])]at c;simp;refine s [] (k+1) _ _ ⟨by omega,c⟩ (by omega) (by simp[u a p]) (by simp[AE]) (by simp[AE]) (by simpa[AE]using b)
 ·have:k=l.length:=by omega
  subst this;simp[yC];refine r _ _ _ ?_;simp;rw[c,List.drop_length,Q8]at h;exact o (by simp) h
theorem Yrw {y:Ah}{l:List At}(e:l.length<=9223372036854775807){c b:Ob}{K:A7->AB->Prop}(h:K (.ret (.d (.bool (l.any λx=>!IJ y x)))) (ME (.agg [y.enc]) c b)):AV P 60 [.d (.AF 5 (l.map At.enc)),.fn 61 [] [.ptr 2 []]] (ME (.agg [y.enc]) c b) K:=by
 refine Aq hP AO Zn4 Zka BD.nil λ_ f=>?_;have a:=f [];simp[fresh]at a;simp[Zhg];refine Yr2 hP e ?_;simp;rw[Q9];exact⟨[],by simp,by simpa[AE]using a,by simpa[AE]using h⟩
theorem Yrp {y:Ah}{l:List At}(f:l.length<=9223372036854775807){c b:Ob}{K:A7->AB->Prop}(h:K (.ret (.d (.bool (l.all (IJ y))))) [(1,c),(0,b)]):AV P 29 [.d (.AF 5 (l.map At.enc)),.d (.fn 30 [.agg [y.enc]] [])] [(1,c),(0,b)] K:=by
 refine Aq hP AO Znf Zjl BD.nil λ_ g=>?_;have a:=g [];simp[fresh]at a;simp[Zg0];refine Yrw hP f ?_;have e:(!(l.any λx=>!IJ y x))=l.all (IJ y):=by simp[List.all_eq_not_any_not]
 simp;refine⟨[],by simp,by simpa[AE]using a,?_⟩;simpa[AE,e]using h
end
section
variable {P:Az} (hP:P.p=Tryz.prog)
include hP
theorem zI {a b:List B}(t:a.length<=9223372036854775807){l:AB}{K:V->Prop}(h:K (.d (.bool (decide (a=b))))):AU P 106 [.d (Xg a),.d (Xg b)] l K:=by
 have q:∀{k n:Nat},k<n->n<=9223372036854775807->IntKind.i64.wrap ((k:Int)+1)=(k:Int)+1:=λr s=>IntWalk.i64_in _ (by omega);refine AJ hP AO (ds:=[Xg a,Xg b]) Yy2 Yuv BD.nil ?_;by_cases g:a.length=b.length
 ·simp[Tw,Xg,g];refine Ae.go (ι:=Nat) (λk=>[(0,.d (.AF 1 (a.map D.AM))),(1,.d (.AF 1 (b.map D.AM))),(12,.d (.int .i64 b.length)),(13,.d (.int .i64 k))]) (λ_=>[]) (λk=>k<=b.length/\a.take k=b.take k) (λk=>b.length-k) 0 ⟨DM _,by simp⟩ (by simp) (by simp) ?_;rintro k ⟨u,i⟩ R o m p v;by_cases f:k<b.length
  ·have c:k<a.length:=by omega
   simp[UK,f,c];refine⟨λe=>p _ _ ?_,λe=>o [] (k+1) _ _ ⟨by omega,?_⟩ (by omega) (by simp[q f (by omega)]) (by simp[AE]) (by simp[AE]) (by simp[AE])⟩
   ·simp;have ne:a≠b:=λh=>by subst h;exact e rfl
    rw[DX ne]at h;exact h
   ·rw[Ca c,Ca f,i,e]
  ·have:k=b.length:=by omega
   subst this;simp[UK];refine m _ _ _ ?_;simp;have e:a=b:=by rw[<-g,C0,g,C0]at i;exact i
   rw[En e]at h;exact h
 ·have j:¬(a.length:Int)=b.length:=by omega
  have e:a≠b:=λe=>g (by rw[e]);rw[DX e]at h;simp[Tw,Xg,g];exact⟨λ_=>h,λh=>(j h).elim⟩
end
def Yxz:Nat:=0x1a5b02087301f13a5dc21046a0280f034b05c85c04b8d41eb0260c502508a024a9ba4b1c709a22bb690220b118858d24e0f001e03805c00370601a0ed31c0c50ab0597508a93b7
def Yx0:Nat:=0x104705201125707201013a00501121046a0190f0019aac0034d50180411eb0170c501608a01547c0145b60b506320b15006b0130b118830800f0f000faac00300e18342200d0c50c173407c00c3b7
def Yx1:Nat:=0x100019e02600581c04400402693778f0cf0384940098a34d50080411eb362cae36200608a0432ae47c3620041c70b500636200457c00208a36200108b362000b8306912100886712d217336ae633614807933615519a336b371903361573360e55555fab800b404b1121eb0c9b0604602a0912850056044f405402802001c042249a990244944ce17b02200402105908b004021313
def Yx2:Nat:=0x104405200d0049f080a00d9378aa0580c706901674901d21711801c04c11801b07911801a8031187d458901609f0407f3079016b8c77b4d50141eb5418460110c854809a07000e70c9fd01204209400b04c0b2a8b00717bbd405204e003226133
def n6:Nat:=0x107359f19b0092e404f74900804f16e00585804f0da0c48d60590050c445c0050c40045c5003a090ba21200204f16e03f44704f04d03f05ba7805903f44711b03f05b03e3815150390ba21203c676ae996f04dae903a150039447145ae9038381b530330ba4d5036676a9f94704da9f034150033447107a9f03238162802d0ba867030676a807b604da8002e15002d447199a804d10b49b64ac00302a0c502915004002a0b10233a200a3f5006063a5b3cc6bb0050520ce0a6052be919e5ae19e8ea0030520710440521983ba3b5
def ot:S:=zS [(zS [] Yx2),(zS [] Yx1),(zS [] Yx0),(zS [] Yxz)] n6
theorem ok6:Xr Tryz.prog 6 1 ot [.t 2]=true:=by kernel_rfl
def n11:Nat:=0x107300b19b00a4c702804b00916e18224c42409c7074fb2ef16e05c04a00a32c022108
def Zij:S:=zS [] n11
def cB:S2:=zL [] [] Yxz
def Yea:=(by cbv:cB=_)
def cE:S2:=zL [] [] Yx0
def Yeb:=(by cbv:cE=_)
def cH:S2:=zL [] [] Yx1
def Yec:=(by cbv:cH=_)
def cJ:S2:=zL [] [] Yx2
def Yed:=(by cbv:cJ=_)
def lt6:S2:=zL [] [cJ,cH,cE,cB] n6
def Et6:=(show lt6=_ from (λ(a b c d:S2)=>(by cbv:zL [] [a,b,c,d] n6=_)) cJ cH cE cB)
theorem lf6:ot.AZ []=some lt6:=by kernel_rfl
section
variable {P:Az} (hP:P.p=Tryz.prog)
include hP
end
def Ni (a:Nat)(t:A4):Bool:=decide (0<=t.lo/\t.lo<=t.hi/\t.hi<=1048576/\-1<=t.unit/\t.unit<a/\t.names.length=0)
def SI (t:A4):Bool:=decide (t.lo=0/\t.hi=1023/\t.unit=-1/\t.names.length=0)
def SJ (t:A4):Bool:=decide (t.lo=0/\t.hi=4095/\t.unit=-1/\t.names.length=0)
def Nj (t:A4):Bool:=decide (t.lo=0/\t.hi=(t.names.length:Int)-1/\t.unit=-1/\1<=t.names.length/\t.names.length<=16)&&decide (t.names.Nodup)
def Ir (a:Nat)(t:A4):Bool:=
 if t.kind=1 then Ni a t else if t.kind=2 then SI t else if t.kind=3 then SJ t else if t.kind=4 then Nj t else false
def Ua (y:Ah)(s f:Int):Option Ad:=if s<0\/f<0 then none else (y.AD[s.toNat]?).bind λc=>c.AL[f.toNat]?
def PM (y:Ah)(u:Int):Int:=match y.Au[u.toNat]? with|some v=>v.base|none=>0
def RA (y:Ah)(a b:A4):Bool:=
 if a.kind≠b.kind then false else if a.kind=4 then decide (a.names=b.names)
 else if a.kind≠1\/a.unit=-1\/b.unit=-1 then decide (a.unit=b.unit) else decide (PM y a.unit=PM y b.unit)
def refOZZ (y:Ah)(a:List GJ)(t:BG):Option (Int×Int):=
 if Dq t.name&&Dq t.path&&decide (t.n=0) then
  (match a[(Y7 GJ.name a t.name 0).toNat]? with
  |some v=>if Y7 GJ.name a t.name 0<0\/Y7 GJ.name a t.name 0≠t.var then none else
   (match y.AD[v.AP.toNat]? with
   |some c=>if Y7 Ad.name c.AL t.path 0<0\/Y7 Ad.name c.AL t.path 0≠t.field then none else some (v.AP,t.field)
   |none=>none)
  |none=>none)
 else none
def BG.zero (t:BG):Bool:=decide (t.name=[])&&decide (t.path=[])&&decide (t.var=0)&&decide (t.field=0)&&decide (t.n=0)
def BB.zero (a:BB):Bool:=decide (a.op=0)&&a.a.zero&&a.b.zero
theorem Us {y:Ah}{s f:Int}(h:¬∃(i:Nat) (b:i<y.AD.length) (j:Nat),s=i/\f=j/\j<y.AD[i].AL.length):Ua y s f=none:=by
 unfold Ua;split
 ·rfl
 ·rename_i g;cases e:y.AD[s.toNat]? with
  |none=>rfl
  |some c=>
   obtain⟨b,d⟩:=EK.1 e;simp only[Option.bind_some];rw[O2];rcases FP f.toNat c.AL.length with a|a
   ·exact(h ⟨s.toNat,b,f.toNat,by omega,by omega,by rw[d];exact a⟩).elim
   ·exact a
theorem T2 {y:Ah}{i j:Nat}(a:i<y.AD.length)(b:j<y.AD[i].AL.length):Ua y i j=some y.AD[i].AL[j]:=by
 unfold Ua;rw[Af (by omega)];simp[a,b]
def Jk (l:List B):List (D×V):=l.map λs=>(.AM s,.d (.bool true))
theorem xp (s:B):∀l:List B,Yh (.AM s) (Jk l)=if s∈l then some (.d (.bool true)) else none
|[]=>by simp[Jk,Yh]
|x::r=>by
 have a:=xp s r;simp only[Jk,Cg,Yh,C8]at a⊢;by_cases e:s=x
 ·simp[e]
 ·simp only[HZ.2 e,BF,Ci,a,DA,e,false_or]
theorem zV (s:B)(v:V):∀l:List B,s∉l->EL (.AM s) v (Jk l)=Jk l++[(.AM s,v)]
|[],_=>by simp[Jk,EL]
|x::r,h=>by
 have b:s≠x:=λe=>h (by simp[e]);have c:s∉r:=λe=>h (by simp[e]);have a:=zV s v r c;simp only[Jk,Cg,EL,C8,List.cons_append]at a⊢;simp only[HZ.2 b,BF,Ci,a]
theorem X7k (s:B)(l:List B):U7 (.AM []) (.AM s) (Jk l):=by
 refine⟨rfl,λe a=>?_⟩;simp only[Jk,C9]at a;obtain⟨x,_,rfl⟩:=a;rfl
theorem Ydp (p:Nat->Bool)(l:List B):Ym p (Jk l)=false:=by
 induction l with
 |nil=>rfl
 |cons x r a=>simpa[Jk,Ym,V.BJ]using a
theorem X7l (l:List B)(x:B):Jk (l++[x])=Jk l++[(.AM x,.d (.bool true))]:=by simp[Jk]
section
variable {P:Az} (hP:P.p=Tryz.prog)
include hP
theorem Yio (t:A4)(u:Nat){c:AB}{K:V->Prop}(h:K (.d (.bool (Ni u t)))):AU P 219 [.d t.enc,.d (.int .i64 u)] c K:=by
 refine AJ hP AO (ds:=[t.enc,.int .i64 u]) Zaq Y7s BD.nil ?_;have a:∀b,b=Ni u t->K (.d (.bool b)):=λb e=>e▸h;clear h;simp[Y1m,A4.enc,Xg];apply a;rw[Dl];simp[Ni,and_assoc]
theorem Yip (t:A4)(u:Nat){c:AB}{K:V->Prop}(h:K (.d (.bool (SI t)))):AU P 220 [.d t.enc,.d (.int .i64 u)] c K:=by
 refine AJ hP AO (ds:=[t.enc,.int .i64 u]) Zar Y7t BD.nil ?_;have a:∀b,b=SI t->K (.d (.bool b)):=λb e=>e▸h;clear h;simp[Y1n,A4.enc,Xg];apply a;rw[Dl];simp[SI,and_assoc]
theorem Yiq (t:A4)(u:Nat){c:AB}{K:V->Prop}(h:K (.d (.bool (SJ t)))):AU P 221 [.d t.enc,.d (.int .i64 u)] c K:=by
 refine AJ hP AO (ds:=[t.enc,.int .i64 u]) Zas Y7u BD.nil ?_;have a:∀b,b=SJ t->K (.d (.bool b)):=λb e=>e▸h;clear h;simp[Y1o,A4.enc,Xg];apply a;rw[Dl];simp[SJ,and_assoc]
theorem Xpp {l:List B}(q:l.length<=9223372036854775807){s:AB}{K:V->Prop}(h:K (.d (.bool (decide l.Nodup)))):AU P 223 [.d (Xg l)] s K:=by
 have v:∀{k n:Nat},k<n->n<=9223372036854775807->IntKind.i64.wrap ((k:Int)+1)=(k:Int)+1:=λw i=>IntWalk.i64_in _ (by omega);refine AJ hP AO (ds:=[Xg l]) Zau Y7w BD.nil ?_;simp[Y1p,Xg];refine Ae.upto l.length (λk=>[(3,.mp 0),(9,.d (.AF 1 (l.map D.AM))),(10,.d (.int .i64 l.length)),(11,.d (.int .i64 k))]) (λk=>[(0,.map (Jk (l.take k)))]) (λk=>(l.take k).Nodup) (by simp) (by simp) (by simp[Jk]) ?_ ?_
 ·intro k c f R t m o u;simp[yu,c,X7k,xp];by_cases g:l[k]∈l.take k
  ·simp[g];refine o _ _ ?_;have:¬l.Nodup:=λr=>by
    have i:(l.take (k+1)).Nodup:=r.sublist (List.take_sublist _ _);rw[Ca c,Em]at i;exact i.2.2 _ g _ (by simp) rfl
   simpa[this]using h
  ·simp[g,zV];refine t [] _ _ ?_ (by simp[v c q]) ?_ (by simp[AE]) ?_
   ·rw[Ca c,Em];refine⟨f,by simp,?_⟩;intro a p b j;simp only[DW]at j;subst j;exact λe=>g (e▸p)
   ·rw[Ca c,X7l];simp[AE]
   ·simp[AH,Ydp]
 ·intro f R m o u;simp[yu];refine m _ _ _ ?_;simp;rw[C0]at f;simpa[f]using h
theorem Yir (t:A4)(q:t.names.length<=9223372036854775807)(u:Nat){o:AB}{K:V->Prop}(h:K (.d (.bool (Nj t)))):AU P 222 [.d t.enc,.d (.int .i64 u)] o K:=by
 refine AJ hP AO (ds:=[t.enc,.int .i64 u]) Zat Y7v BD.nil ?_;have l:IntKind.i64.wrap ((t.names.length:Int)-1)=(t.names.length:Int)-1:=IntWalk.i64_in _ (by omega);have c:∀{o:AB}{K:V->Prop},K (.d (.bool (decide t.names.Nodup)))->AU P 223 [.d (.AF 1 (t.names.map .AM))] o K:=λh=>Xpp hP q h;by_cases n:t.lo=0/\t.hi=(t.names.length:Int)-1/\t.unit=-1/\1<=t.names.length/\t.names.length<=16
 ·obtain⟨a,b,f,k,m⟩:=n;have g:¬t.names=[]:=by intro e;simp[e]at k
  have i:(1:Int)<=t.names.length:=by omega
  have j:(t.names.length:Int)<=16:=by omega
  simp[PL,A4.enc,Xg,a,b,f,i,j,l];refine c ?_;have e:Nj t=decide t.names.Nodup:=by simp only[Nj,a,b,f,k,m,and_self,decide_true,EA]
  rw[e]at h;simpa using h
 ·have p:Nj t=false:=by simp only[Nj,n,decide_false,Bool.false_and]
  rw[p]at h;by_cases a:t.lo=0
  ·by_cases b:t.hi=(t.names.length:Int)-1
   ·by_cases f:t.unit=-1
    ·by_cases k:1<=t.names.length
     ·have m:¬t.names.length<=16:=λm=>n ⟨a,b,f,k,m⟩;have g:¬t.names=[]:=by intro e;simp[e]at k
      have i:(1:Int)<=t.names.length:=by omega
      have j:¬(t.names.length:Int)<=16:=by omega
      simp[PL,A4.enc,Xg,a,b,f,i,j,l];exact h
     ·have g:t.names=[]:=by simpa using k
      simp[PL,A4.enc,Xg,a,b,f,g,l];exact h
    ·simp[PL,A4.enc,Xg,a,b,f,l];exact h
   ·simp[PL,A4.enc,Xg,a,b,l];exact h
  ·simp[PL,A4.enc,Xg,a,l];exact h
def SK:D:=.agg [.Bl,.fn 219 [] [],.fn 220 [] [],.fn 221 [] [],.fn 222 [] []]
theorem VH {a:AB}{K:V->Prop}(h:K (.d SK)):AU P 130 [] a K:=by
 refine AJ hP AO (ds:=[]) Y9q Y6x BD.nil ?_;simp[Y02];exact h
theorem zJ {y:Ah}(t:A4)(s:t.names.length<=9223372036854775807){a:AB}{K:V->Prop}(h:K (.d (.bool (Ir y.Au.length t)))):AU P 64 [.d (.agg [y.enc]),.d t.enc] a K:=by
 have n:Xd P.p 219=true:=by rw[hP];kernel_rfl
 have o:Xd P.p 220=true:=by rw[hP];kernel_rfl
 have q:Xd P.p 221=true:=by rw[hP];kernel_rfl
 have r:Xd P.p 222=true:=by rw[hP];kernel_rfl
 have j:∀{a:AB}{K:V->Prop},K (.d (.bool (Ni y.Au.length t)))->AU P 219 [.d (.agg [iD t.kind,iD t.lo,iD t.hi,.AM t.CF,iD t.unit,.AF 1 (t.names.map .AM)]),.d (.int .i64 y.Au.length)] a K:=λh=>Yio hP t _ h;have k:∀{a:AB}{K:V->Prop},K (.d (.bool (SI t)))->AU P 220 [.d (.agg [iD t.kind,iD t.lo,iD t.hi,.AM t.CF,iD t.unit,.AF 1 (t.names.map .AM)]),.d (.int .i64 y.Au.length)] a K:=λh=>Yip hP t _ h;have l:∀{a:AB}{K:V->Prop},K (.d (.bool (SJ t)))->AU P 221 [.d (.agg [iD t.kind,iD t.lo,iD t.hi,.AM t.CF,iD t.unit,.AF 1 (t.names.map .AM)]),.d (.int .i64 y.Au.length)] a K:=λh=>Yiq hP t _ h;have m:∀{a:AB}{K:V->Prop},K (.d (.bool (Nj t)))->AU P 222 [.d (.agg [iD t.kind,iD t.lo,iD t.hi,.AM t.CF,iD t.unit,.AF 1 (t.names.map .AM)]),.d (.int .i64 y.Au.length)] a K:=λh=>Yir hP t s _ h;refine AJ hP AO (ds:=[.agg [y.enc],t.enc]) Zn8 Zke BD.nil ?_;unfold Ir at h;by_cases c:t.kind=1
 ·rw[BL c]at h;simp only[c]at j;simp[Pf,Ah.enc,A4.enc,Xg,c];refine VH hP ?_;simp[SK,n];refine⟨⟨rfl,rfl,rfl,rfl,rfl⟩,AU.Bm (j ?_)⟩;simpa using h
 rw[Af c]at h;by_cases e:t.kind=2
 ·rw[BL e]at h;simp only[e]at k;simp[Pf,Ah.enc,A4.enc,Xg,e];refine VH hP ?_;simp[SK,o];refine⟨⟨rfl,rfl,rfl,rfl,rfl⟩,AU.Bm (k ?_)⟩;simpa using h
 rw[Af e]at h;by_cases f:t.kind=3
 ·rw[BL f]at h;simp only[f]at l;simp[Pf,Ah.enc,A4.enc,Xg,f];refine VH hP ?_;simp[SK,q];refine⟨⟨rfl,rfl,rfl,rfl,rfl⟩,AU.Bm (l ?_)⟩;simpa using h
 rw[Af f]at h;by_cases g:t.kind=4
 ·rw[BL g]at h;simp only[g]at m;simp[Pf,Ah.enc,A4.enc,Xg,g];refine VH hP ?_;simp[SK,r];refine⟨⟨rfl,rfl,rfl,rfl,rfl⟩,AU.Bm (m ?_)⟩;simpa using h
 rw[Af g]at h;have b:t.kind<1\/4<t.kind:=by omega
 rcases b with b|b
 ·simp[Pf,Ah.enc,A4.enc,Xg,b];exact h
 ·have i:¬t.kind<1:=by omega
  simp[Pf,Ah.enc,A4.enc,Xg,b,i];exact h
theorem Xmb {y:Ah}(a b:A4)(G:a.names.length<=9223372036854775807)(t:Ir y.Au.length a=true)(w:Ir y.Au.length b=true){x:AB}{K:V->Prop}(h:K (.d (.bool (RA y a b)))):
 AU P 128 [.d (.agg [y.enc]),.d a.enc,.d b.enc] x K:=by
 refine AJ hP AO (ds:=[.agg [y.enc],a.enc,b.enc]) Y9o Y6v BD.nil ?_;have c:∀{x:AB}{K:V->Prop},K (.d (.bool (decide (a.names=b.names))))->AU P 106 [.d (.AF 1 (a.names.map .AM)),.d (.AF 1 (b.names.map .AM))] x K:=λh=>zI hP G h;unfold RA at h;by_cases p:a.kind=b.kind
 ·rw[Af (by simp[p])]at h;by_cases r:a.kind=4
  ·rw[BL r]at h;have i:b.kind=4:=by omega
   simp[PK,Ah.enc,A4.enc,Xg,r,i];refine c ?_;simpa using h
  ·rw[Af r]at h;have i:¬b.kind=4:=by omega
   by_cases k:a.kind=1
   ·have f:b.kind=1:=by omega
    by_cases q:a.unit=-1
    ·rw[BL (.inr (.inl q))]at h;have j:∀g,g=decide (a.unit=b.unit)->K (.d (.bool g)):=λg e=>e▸h;simp[PK,Ah.enc,A4.enc,Xg,k,f,q];apply j;rw[Dl];simp;omega
    ·by_cases s:b.unit=-1
     ·rw[BL (.inr (.inr s))]at h;have j:∀g,g=decide (a.unit=b.unit)->K (.d (.bool g)):=λg e=>e▸h;simp[PK,Ah.enc,A4.enc,Xg,k,f,q,s];apply j;rw[Dl];simp;omega
     ·rw[Af (by omega)]at h;have H:0<=a.unit/\a.unit<y.Au.length:=by
       simp only[Ir,k,Cz,Ni,Bs]at t;omega
      have J:0<=b.unit/\b.unit<y.Au.length:=by
       simp only[Ir,f,Cz,Ni,Bs]at w;omega
      obtain⟨u,l⟩:∃u:Nat,a.unit=u:=⟨a.unit.toNat,by omega⟩
      obtain⟨v,n⟩:∃u:Nat,b.unit=u:=⟨b.unit.toNat,by omega⟩
      have m:u<y.Au.length:=by omega
      have o:v<y.Au.length:=by omega
      have z:PM y a.unit=y.Au[u].base:=by simp[PM,l,m]
      have F:PM y b.unit=y.Au[v].base:=by simp[PM,n,o]
      rw[z,F]at h;simp[PK,Ah.enc,A4.enc,At.enc,Xg,k,f,q,s,l,n,m,o]
      first|exact h|skip
   ·rw[BL (.inl k)]at h;have f:¬b.kind=1:=by omega
    have j:∀g,g=decide (a.unit=b.unit)->K (.d (.bool g)):=λg e=>e▸h;simp[PK,Ah.enc,A4.enc,Xg,p,i,f];apply j;rw[Dl];simp
 ·rw[BL (by simpa using p)]at h;simp[PK,Ah.enc,A4.enc,Xg,p];exact h
end
def Yl (y:Ah)(p:AR):Bool:=(p.CW.all λr=>(Ua y r.AP r.field).isSome)&&decide (0<=p.DJ)&&decide (p.DJ<=64)
def wB (w:Int):Bool:=decide (0<=w)&&decide (w<=9)
theorem Zbe {w:Int}(a:0<=w)(b:w<=9):wB w=true:=by unfold wB;rw[En a,En b];rfl
def U6 (y:Ah)(f:Ad):Bool:=Ir y.Au.length f.type&&wB f.w0&&wB f.w1&&wB f.w2&&wB f.w3
def X2 (y:Ah)(s:AI):Bool:=
 decide (0<=s.Bz)&&decide (s.Bz<y.Al.length)&&decide (1<=s.BT)&&decide (s.BT<=255)&&decide (1<=s.AL.length)&&decide (s.AL.length<=12)&&
 (match s.AL[0]? with|none=>false|some f=>decide (f.type.kind=3))&&s.AL.all (U6 y)
theorem Wg {a:Type}{p:a->Bool}{l:List a}{k:Nat}(b:k<l.length):(l.take (k+1)).all p=((l.take k).all p&&p l[k]):=by
 rw[Ca b,QY];simp
section
variable {P:Az} (hP:P.p=Tryz.prog)
include hP
theorem Xps {y:Ah}{p:AR}(J:p.CW.length<=9223372036854775807){z:AB}{K:V->Prop}(h:K (.d (.bool (Yl y p)))):AU P 35 [.d (.agg [y.enc]),.d p.enc] z K:=by
 refine AJ hP AO (ds:=[.agg [y.enc],p.enc]) Znl Zjr BD.nil ?_;have b:y.enc.sz=6:=rfl;simp[Zg4,AR.enc,b];refine Ae.upto p.CW.length (λk=>[(2,.ptr 0 []),(3,.ptr 1 []),(10,.d (.AF 4 (p.CW.map CM.enc))),(11,.d (.int .i64 p.CW.length)),(12,.d (.int .i64 k))])
  (λ_=>[(1,.box 77 (.d (.agg [.AM p.name,.AF 4 (p.CW.map CM.enc),iD p.DJ]))),(0,.box 82 (.d (.agg [y.enc])))]) (λk=>(p.CW.take k).all (λr=>(Ua y r.AP r.field).isSome)=true) (by simp) (by simp) (by simp) ?_ ?_
 ·intro k m g R F n o G;have H:IntKind.i64.wrap ((k:Int)+1)=(k:Int)+1:=IntWalk.i64_in _ (by omega);have a:=Wg (p:=λr:CM=>(Ua y r.AP r.field).isSome) m;rw[g,EA]at a;simp[Xy7,m,CM.enc,b];refine⟨by rw[CC];rfl,UT hP (λw=>?_) (λi u j v x q=>?_)⟩
  ·have c:=Us (y:=y) (s:=p.CW[k].AP) (f:=p.CW[k].field) w;rw[c]at a;have e:Yl y p=false:=by
    unfold Yl;have:(p.CW.all λr=>(Ua y r.AP r.field).isSome)=false:=by
     rw[List.all_eq_false];exact⟨p.CW[k],CS m,by simp[c]⟩
    rw[this];rfl
   rw[e]at h;simp[Ln];refine o _ _ ?_;simp;exact h
  ·have c:=T2 u v;rw[x,q,c]at a;have l:∀t:A4,t.enc.shape=.node [.AX,.AX,.AX,.AX,.AX,.AX]:=λt=>rfl;simp[l,H];refine F [] _ _ a (by simp) (by simp[AE]) (by simp[AE]) (by simp[AE])
 ·intro g R n o G;simp[Xy7];refine n _ _ _ ?_;rw[C0]at g;have e:Yl y p=(decide (0<=p.DJ)&&decide (p.DJ<=64)):=by unfold Yl;rw[g,EA]
  rw[e]at h;simp;exact h
theorem Xw5 {y:Ah}{x:AI}(hx:x.BC){ob:AB}{K:V->Prop}(h:K (.d (.bool (X2 y x)))):AU P 32 [.d (.agg [y.enc]),.d x.enc] ob K:=by
 refine AJ hP AO (ds:=[.agg [y.enc],x.enc]) Zni Zjo BD.nil ?_;have c:y.enc.sz=6:=rfl;have r:y.enc=.agg [Xg y.Al,.AF 5 (y.Au.map At.enc),.AF 6 (y.AD.map AI.enc),.AF 5 (y.AK.map Ai.enc),.AF 5 (y.AQ.map Ag.enc),.AF 3 (y.AN.map AR.enc)]:=rfl;have g:X2 y x=false->K (.d (.bool false)):=λe=>by rw[e]at h;exact h
 obtain⟨nm,bn,i,l,a,o⟩:=x;have J:=hx.AL;have m:=hx.names;dsimp only at J m;by_cases s:i<0
 ·simp[Mp,AI.enc,c,r,Xg,s];exact g (by simp[X2];omega)
 by_cases t:(y.Al.length:Int)<=i
 ·simp[Mp,AI.enc,c,r,Xg,s,t];exact g (by simp[X2];omega)
 by_cases z:l<1
 ·simp[Mp,AI.enc,c,r,Xg,s,t,z];exact g (by simp[X2];omega)
 by_cases G:255<l
 ·simp[Mp,AI.enc,c,r,Xg,s,t,z,G];exact g (by simp[X2];omega)
 by_cases W:(a.length:Int)<1
 ·simp[Mp,AI.enc,c,r,Xg,s,t,z,G,W];exact g (by simp[X2];omega)
 by_cases a6:(12:Int)<a.length
 ·simp[Mp,AI.enc,c,r,Xg,s,t,z,G,W,a6];exact g (by simp[X2];omega)
 have q:0<a.length:=by omega
 have fe:∀f:Ad,f.enc=.agg [.AM f.name,.agg [iD f.type.kind,iD f.type.lo,iD f.type.hi,.AM f.type.CF,iD f.type.unit,Xg f.type.names],.agg [iD f.w0,iD f.w1,iD f.w2,iD f.w3]]:=λ_=>rfl;have H:=fe a[0];by_cases X:a[0].type.kind=3
 ·simp[Mp,AI.enc,c,r,Xg,s,t,z,G,W,a6,H,q,X];have N:∀b,X2 y ⟨nm,bn,i,l,a,o⟩=b->a.all (U6 y)=b:=by
   intro b e;rw[<-e];have c1:0<=i:=by omega
   have c2:i<y.Al.length:=by omega
   have c3:1<=l:=by omega
   have c4:l<=255:=by omega
   have c5:1<=a.length:=by omega
   have c6:a.length<=12:=by omega
   simp[X2,c1,c2,c3,c4,c5,c6,q,X]
  rw[<-N _ rfl]at h;have wr:∀{k n:Nat},k<n->n<=9223372036854775807->IntKind.i64.wrap ((k:Int)+1)=(k:Int)+1:=λh1 h2=>IntWalk.i64_in _ (by omega);refine Ae.upto a.length (λk=>[(2,.ptr 0 []),(53,.d (.AF 11 (a.map Ad.enc))),(54,.d (.int .i64 a.length)),(55,.d (.int .i64 k))])
   (λ_=>[(1,.box 54 (.d (.agg [.AM nm,.AM bn,iD i,iD l,.AF 11 (a.map Ad.enc),.AF 4 (o.map Ax.enc)]))),(0,.box 82 (.d (.agg [y.enc])))]) (λk=>(a.take k).all (U6 y)=true) (by simp) (by simp) (by simp[r,Xg]) ?_ ?_
  ·intro k L Y R rn re rr rp;have v:=Wg (p:=U6 y) L;rw[Y,EA]at v;have F:U6 y a[k]=false->K (.d (.bool false)):=by
    intro e;have:a.all (U6 y)=false:=by
     rw[List.all_eq_false];exact⟨a[k],CS L,by simp[e]⟩
    rw[this]at h;exact h
   have M:=m _ (CS L);have fk:=fe a[k];simp[Xy6,L,fk,Xg];generalize a[k]=f at v F M;refine⟨by rw[CC];rfl,zJ hP f.type M ?_⟩;cases ht:Ir y.Au.length f.type with
   |false=>
    simp;refine rr _ _ ?_;simp;exact F (by simp[U6,ht])
   |true=>
    simp;have Q:U6 y f=(wB f.w0&&wB f.w1&&wB f.w2&&wB f.w3):=by simp[U6,ht]
    refine Ae.upto 4 (λj=>[(2,.ptr 0 []),(53,.d (.AF 11 (a.map Ad.enc))),(54,.d (.int .i64 a.length)),(55,.d (.int .i64 k)),(65,.d (.agg [iD f.w0,iD f.w1,iD f.w2,iD f.w3])),(66,.d (.int .i64 j))])
     (λ_=>[(2,.box 136 (.d (.agg [.AM f.name,.agg [iD f.type.kind,iD f.type.lo,iD f.type.hi,.AM f.type.CF,iD f.type.unit,.AF 1 (f.type.names.map .AM)],.agg [iD f.w0,iD f.w1,iD f.w2,iD f.w3]]))),(1,.box 54 (.d (.agg [.AM nm,.AM bn,iD i,iD l,.AF 11 (a.map Ad.enc),.AF 4 (o.map Ax.enc)]))),(0,.box 82 (.d (.agg [y.enc])))])
     (λj=>([f.w0,f.w1,f.w2,f.w3].take j).all wB=true) (by simp) (by simp) (by simp) ?_ ?_
    ·intro j hj Z R' aa T U ab;have u:j=0\/j=1\/j=2\/j=3:=by omega
     have bw:∀{w:Int},wB w=false->w∈[f.w0,f.w1,f.w2,f.w3]->U6 y f=false:=by
      intro w e O;rw[Q];simp only[DA,List.not_mem_nil,or_false]at O;rcases O with rfl|rfl|rfl|rfl<;>simp[e]
     have w1:IntKind.i64.wrap 1=1:=rfl;have w2:IntKind.i64.wrap 2=2:=rfl;have w3:IntKind.i64.wrap 3=3:=rfl;have w4:IntKind.i64.wrap 4=4:=rfl;rcases u with rfl|rfl|rfl|rfl
     all_goals
      simp[Xy5];refine⟨⟨rfl,rfl,rfl,rfl⟩,λO=>?_,λh1 h2=>?_⟩
      ·refine U _ _ ?_;simp;refine rr _ _ ?_;simp
       first
       |exact F (bw (w:=f.w0) (by simp[wB];omega) (by simp))
       |exact F (bw (w:=f.w1) (by simp[wB];omega) (by simp))
       |exact F (bw (w:=f.w2) (by simp[wB];omega) (by simp))
       |exact F (bw (w:=f.w3) (by simp[wB];omega) (by simp))
      ·refine aa [] _ _ ?_ (by simp[w1,w2,w3,w4]) (by simp[AE]) (by simp[AE]) (by simp[AE]);have O:=Zbe h1 h2;simp at Z⊢;simp[Z,O]
    ·intro Z R' T U ab;simp[Xy5];refine T _ _ _ ?_;simp[wr L J];have hb:U6 y f=true:=by
      rw[Q];simpa[Bool.and_assoc]using Z
     refine rn [] _ _ (by rw[v,hb]) (by simp) (by simp[AE]) (by simp[AE]) (by simp[AE])
  ·intro Y R re rr rp;simp[Xy6];refine re _ _ _ ?_;rw[C0]at Y;rw[Y]at h;simp;exact h
 ·simp[Mp,AI.enc,c,r,Xg,s,t,z,G,W,a6,H,q,X];exact g (by simp[X2,q,X])
end
def OG (t:BG):Bool:=decide (t.var=-1)&&decide (0<=t.n)&&decide (t.n<=1048576)
def Jm (y:Ah)(r:Ai)(n:Int)(t:BG):Option A4:=
 if t.var<0\/n<=t.var then none else (r.AW[t.var.toNat]?).bind λf=>(Ua y f.AP t.field).map Ad.type
def DD (y:Ah)(r:Ai):D:=.agg [.agg [y.enc],r.enc]
def LZ (y:Ah)(r:Ai)(i:Nat)(f:Am):Bool:=
 decide (0<=f.AP)&&decide (f.AP<y.AD.length)&&(decide (f.CF.var=-1)||(match Jm y r i f.CF with|some t=>decide (t.kind=3)|none=>false))
def Vc (y:Ah)(r:Ai):Nat->List Am->Bool
|_,[]=>true
|k,f::l=>LZ y r k f&&Vc y r (k+1) l
def MY (y:Ah)(r:Ai):Bool:=decide (1<=r.AW.length)&&decide (r.AW.length<=3)&&Vc y r 0 r.AW
section
variable {P:Az} (hP:P.p=Tryz.prog)
include hP
theorem rE {t:BG}{c:AB}{K:V->Prop}(h:K (.d (.bool (OG t)))):AU P 127 [.d t.enc] c K:=by
 refine AJ hP AO (ds:=[t.enc]) Y9n Y6u BD.nil ?_;have a:∀b,b=OG t->K (.d (.bool b)):=λb e=>e▸h;simp[Y00,BG.enc];apply a;rw[Dl];simp[OG]
theorem dS {y:Ah}{r:Ai}{n:Int}(O:n<=r.AW.length){t:BG}{M:AB}{K:V->Prop}
 (g:Jm y r n t=none->K (.BE [.d Ln,.d (.bool false)])) (G:∀x,Jm y r n t=some x->(∃i,∃h:i<y.AD.length,∃j,∃k:j<y.AD[i].AL.length,x=y.AD[i].AL[j].type)->K (.BE [.d x.enc,.d (.bool true)])):
 AU P 126 [.d (DD y r),.d t.enc,.d (.int .i64 n)] M K:=by
 refine AJ hP AO (ds:=[DD y r,t.enc,.int .i64 n]) Y9m Y6t BD.nil ?_;have a:y.enc.sz=6:=rfl;by_cases c:t.var<0
 ·simp[lD,BG.enc,DD,Ai.enc,a,c];exact g (by simp[Jm,c])
 by_cases m:n<=t.var
 ·simp[lD,BG.enc,DD,Ai.enc,a,c,m];exact g (by simp[Jm,m])
 obtain⟨v,q⟩:∃v:Nat,t.var=v:=⟨t.var.toNat,by omega⟩
 have b:v<r.AW.length:=by omega
 have p:Jm y r n t=(Ua y r.AW[v].AP t.field).map Ad.type:=by
  unfold Jm;rw[Af (by omega),q,Int.toNat_natCast,Cn b];rfl
 have z:∀f:Am,f.enc=.agg [.AM f.name,.AM f.kind,iD f.AP,f.CF.enc]:=λ_=>rfl;have F:=z r.AW[v];have s:(v:Int)<n:=by omega
 have u:¬n<=(v:Int):=by omega
 have w:¬(v:Int)<0:=by omega
 simp[lD,BG.enc,DD,Ai.enc,a,q,b,F,s,u,w];refine⟨by rw[CC];rfl,UT hP (λl=>?_) (λi h j k L H=>?_)⟩
 ·simp[Ln];exact g (by rw[p,Us l];rfl)
 ·have o:=T2 h k;rw[<-L,<-H]at o;have J:(match V.d y.AD[i].AL[j].type.enc with|V.d (D.agg N)=>true|V.agg N=>true|x=>false)=true:=rfl;have e:∀t:A4,t.enc.shape=.node [.AX,.AX,.AX,.AX,.AX,.AX]:=λt=>rfl;simp[e];exact⟨J,G _ (by rw[p,o];rfl) ⟨i,h,j,k,rfl⟩⟩
theorem X0i {y:Ah}{r:Ai}{Q:AB}{K:V->Prop}(h:K (.d (.bool (MY y r)))):AU P 55 [.d (DD y r)] Q K:=by
 refine AJ hP AO (ds:=[DD y r]) Znz Zj5 BD.nil ?_;have b:y.enc.sz=6:=rfl;have p:y.enc.shape.size=6:=by rw[CC];rfl
 have u:y.enc=.agg [Xg y.Al,.AF 5 (y.Au.map At.enc),.AF 6 (y.AD.map AI.enc),.AF 5 (y.AK.map Ai.enc),.AF 5 (y.AQ.map Ag.enc),.AF 3 (y.AN.map AR.enc)]:=rfl;have a:MY y r=false->K (.d (.bool false)):=λe=>by rw[e]at h;exact h
 by_cases q:(r.AW.length:Int)<1
 ·simp[iy,DD,Ai.enc,b,p,q];exact a (by simp[MY];omega)
 by_cases v:(3:Int)<r.AW.length
 ·simp[iy,DD,Ai.enc,b,p,q,v];exact a (by simp[MY];omega)
 have O:MY y r=Vc y r 0 r.AW:=by
  have g:1<=r.AW.length:=by omega
  have i:r.AW.length<=3:=by omega
  simp[MY,g,i]
 rw[O]at h a;simp[iy,DD,Ai.enc,b,p,q,v];refine Ae.upto r.AW.length (λk=>[(1,.ptr 0 []),(21,.d (.AF 8 (r.AW.map Am.enc))),(22,.d (.int .i64 r.AW.length)),(23,.d (.int .i64 k))])
  (λ_=>[(0,.box 84 (.d (DD y r)))]) (λk=>Vc y r 0 r.AW=Vc y r k (r.AW.drop k)) (by simp) (by simp) (by simp[DD,Ai.enc]) ?_ ?_
 ·intro k w s R G F o T;have H:IntKind.i64.wrap ((k:Int)+1)=(k:Int)+1:=IntWalk.i64_in _ (by omega);have c:Vc y r 0 r.AW=(LZ y r k r.AW[k]&&Vc y r (k+1) (r.AW.drop (k+1))):=by rw[s,Db w,Vc]
  have L:∀f:Am,f.enc=.agg [.AM f.name,.AM f.kind,iD f.AP,f.CF.enc]:=λ_=>rfl;have U:∀t:BG,t.enc=.agg [.AM t.name,.AM t.path,iD t.var,iD t.field,iD t.n]:=λ_=>rfl;have M:=L r.AW[k];have j:LZ y r k r.AW[k]=false->K (.d (.bool false)):=λe=>a (by rw[c,e];rfl);simp[Xzi,w,M,U,DD,Ai.enc,b,p,u,Xg];generalize r.AW[k]=f at c j;have z:LZ y r k f=true->Vc y r 0 r.AW=Vc y r (k+1) (r.AW.drop (k+1)):=λe=>by rw[c,e,EA]
  refine⟨λW=>?_,λg i=>⟨λm=>?_,λm=>?_⟩⟩
  ·refine o _ _ ?_;simp;exact j (by simp[LZ];omega)
  ·refine G [] _ _ (z (by simp[LZ,g,i,m])) (by simp[H]) (by simp[AE,DD,Ai.enc,u,Xg]) (by simp[AE]) (by simp[AE,DD])
  ·refine dS (y:=y) (r:=r) hP (n:=k) (by omega) (t:=f.CF) (λe=>?_) (λx e _=>?_)
   ·simp[Ln];refine o _ _ ?_;simp;exact j (by simp[LZ,g,i,m,e])
   ·have N:∀t:A4,t.enc.shape=.node [.AX,.AX,.AX,.AX,.AX,.AX]:=λt=>rfl;have J:x.enc=.agg [iD x.kind,iD x.lo,iD x.hi,.AM x.CF,iD x.unit,Xg x.names]:=rfl;by_cases l:x.kind=3
    ·simp[J,l,Xg,H];refine G [] _ _ (z (by simp[LZ,g,i,e,l])) (by simp) (by simp[AE,DD,Ai.enc,u,Xg]) (by simp[AE]) (by simp[AE,DD])
    ·simp[J,l,Xg];refine o _ _ ?_;simp;exact j (by simp[LZ,g,i,m,e,l])
 ·intro s R F o T;simp[Xzi];refine F _ _ _ ?_;rw[s,List.drop_length,Vc]at h;simp;exact h
end
def M4 (x z:A4):Bool:=decide (z.kind=x.kind)&&decide (z.unit=x.unit)&&decide (z.names=x.names)&&decide (x.lo<=z.lo)&&decide (z.lo<=x.hi)&&decide (x.lo<=z.hi)&&decide (z.hi<=x.hi)
def Jw (y:Ah)(r:Ai)(x:A4)(t:BG):Bool:=
 if OG t then decide (x.lo<=t.n)&&decide (t.n<=x.hi) else (match Jm y r r.AW.length t with|some z=>M4 x z|none=>false)
def Jl (l:List Int):List (D×V):=l.map λs=>(iD s,.d (.bool true))
theorem vw (s:Int):∀l:List Int,Yh (iD s) (Jl l)=if s∈l then some (.d (.bool true)) else none
|[]=>by simp[Jl,Yh]
|x::r=>by
 have a:=vw s r;simp only[Jl,Cg,Yh,C8]at a⊢;by_cases e:s=x
 ·simp[e]
 ·simp only[HZ.2 e,BF,Ci,a,DA,e,false_or]
theorem xn (s:Int)(v:V):∀l:List Int,s∉l->EL (iD s) v (Jl l)=Jl l++[(iD s,v)]
|[],_=>by simp[Jl,EL]
|x::r,h=>by
 have b:s≠x:=λe=>h (by simp[e]);have c:s∉r:=λe=>h (by simp[e]);have a:=xn s v r c;simp only[Jl,Cg,EL,C8,List.cons_append]at a⊢;simp only[HZ.2 b,BF,Ci,a]
theorem Xx5 (s:Int)(l:List Int):U7 (iD 0) (iD s) (Jl l):=by
 refine⟨rfl,λe a=>?_⟩;simp only[Jl,C9]at a;obtain⟨x,_,rfl⟩:=a;rfl
theorem X7j (p:Nat->Bool)(l:List Int):Ym p (Jl l)=false:=by
 induction l with
 |nil=>rfl
 |cons x r a=>simpa[Jl,Ym,V.BJ]using a
theorem Xx6 (l:List Int)(x:Int):Jl (l++[x])=Jl l++[(iD x,.d (.bool true))]:=by simp[Jl]
section
variable {P:Az} (hP:P.p=Tryz.prog)
include hP
theorem Yik {l:List Int}(t:l.length<=9223372036854775807){v:AB}{K:V->Prop}(h:K (.d (.bool (decide l.Nodup)))):AU P 59 [.d (X9 l)] v K:=by
 have y:∀{k n:Nat},k<n->n<=9223372036854775807->IntKind.i64.wrap ((k:Int)+1)=(k:Int)+1:=λz i=>IntWalk.i64_in _ (by omega);refine AJ hP AO (ds:=[X9 l]) Zn3 Zj9 BD.nil ?_;simp[Zhf,X9];refine Ae.upto l.length (λk=>[(3,.mp 0),(9,.d (.AF 1 (l.map iD))),(10,.d (.int .i64 l.length)),(11,.d (.int .i64 k))]) (λk=>[(0,.map (Jl (l.take k)))]) (λk=>(l.take k).Nodup) (by simp) (by simp) (by simp[Jl]) ?_ ?_
 ·intro k c g R w m o x;have p:=vw l[k] (l.take k);have q:=Xx5 l[k] (l.take k);simp[Xzl,c,p,q];by_cases f:l[k]∈l.take k
  ·simp[f];refine o _ _ ?_;have:¬l.Nodup:=λu=>by
    have i:(l.take (k+1)).Nodup:=u.sublist (List.take_sublist _ _);rw[Ca c,Em]at i;exact i.2.2 _ f _ (by simp) rfl
   simpa[this]using h
  ·have r:=xn l[k] (.d (.bool true)) (l.take k) f;simp[f,r];refine w [] _ _ ?_ (by simp[y c t]) ?_ (by simp[AE]) ?_
   ·rw[Ca c,Em];refine⟨g,by simp,?_⟩;intro a s b j;simp only[DW]at j;subst j;exact λe=>f (e▸s)
   ·rw[Ca c,Xx6];simp[AE]
   ·simp[AH,X7j]
 ·intro g R m o x;simp[Xzl];refine m _ _ _ ?_;simp;rw[C0]at g;simpa[g]using h
theorem Yiw {y:Ah}{r:Ai}(L:r.AW.length<=9223372036854775807)(F:y.BC){x:A4}{t:BG}{H:AB}{K:V->Prop}(h:K (.d (.bool (Jw y r x t)))):AU P 58 [.d (DD y r),.d x.enc,.d t.enc] H K:=by
 refine AJ hP AO (ds:=[DD y r,x.enc,t.enc]) Zn2 Zj8 BD.nil ?_;have f:y.enc.sz=6:=rfl;have s:y.enc.shape.size=6:=by rw[CC];rfl
 have J:t.enc=.agg [.AM t.name,.AM t.path,iD t.var,iD t.field,iD t.n]:=rfl;have k:∀x:A4,x.enc=.agg [iD x.kind,iD x.lo,iD x.hi,.AM x.CF,iD x.unit,Xg x.names]:=λ_=>rfl;simp[Zhe,DD,Ai.enc,J,k,f,s];refine rE hP (t:=t) ?_;cases p:OG t with
 |true=>
  simp;have e:Jw y r x t=(decide (x.lo<=t.n)&&decide (t.n<=x.hi)):=by unfold Jw;rw[p];rfl
  rw[e]at h;exact h
 |false=>
  simp[f,s];refine dS (y:=y) (r:=r) hP (n:=r.AW.length) (by omega) (t:=t) (λe=>?_) (λz e G=>?_)
  ·have l:Jw y r x t=false:=by unfold Jw;rw[p,e];rfl
   rw[l]at h;simp[Ln];exact h
  ·have l:Jw y r x t=M4 x z:=by unfold Jw;rw[p,e];rfl
   rw[l]at h;have q:z.names.length<=9223372036854775807:=by
    obtain⟨i,v,j,w,rfl⟩:=G;exact(F.AP _ (CS v)).names _ (CS w)
   by_cases c:z.kind=x.kind
   rotate_left
   ·have m:M4 x z=false:=by simp[M4,c]
    rw[m]at h;simp[k,Xg,c];exact h
   by_cases g:z.unit=x.unit
   rotate_left
   ·have m:M4 x z=false:=by simp[M4,g]
    rw[m]at h;have o:(z.unit==x.unit)=false:=by simpa using g
    simp[k,Xg,c,o];exact h
   simp[k,Xg,c,g];refine zI hP (a:=z.names) (b:=x.names) q ?_;have u:∀b,b=M4 x z->K (.d (.bool b)):=λb e=>e▸h;simp;apply u;rw[Dl];simp[M4,c,g]
end
def CU (l:List B)(n:B):Option Nat:=l.findIdx? (λx=>decide (x=n))
theorem Yc8 (l:List B)(x n:B):CU (l++[x]) n=(CU l n).or (if x=n then some l.length else none):=by
 unfold CU;rw[List.findIdx?_append];congr 1;by_cases e:x=n<;>simp[e]
theorem Jb {l:List B}{n:B}:CU l n=none↔n∉l:=by
 unfold CU;rw[List.findIdx?_eq_none_iff];constructor
 ·intro h a;simpa using h n a
 ·intro h x b;simp;rintro rfl;exact h b
theorem Nk {l:List B}{n:B}{i:Nat}(h:CU l n=some i):i<l.length:=by
 unfold CU at h;rw[List.findIdx?_eq_some_iff_getElem]at h;exact h.1
theorem Yys {l:List B}{n:B}{i:Nat}(h:CU l n=some i):l[i]? = some n:=by
 unfold CU at h;rw[List.findIdx?_eq_some_iff_getElem]at h;obtain⟨a,b,_⟩:=h;rw[Cn a];simpa using b
def Y3 (l:List B):Nat->List (D×V)
|0=>[]
|k+1=>match l[k]? with
 |none=>Y3 l k
 |some n=>if n∈l.take k then Y3 l k else Y3 l k++[(.AM n,.d (.int .i64 k))]
theorem Ub (k j:D)(v:V):∀l:List (D×V),Yh k (l++[(j,v)])=(Yh k l).or (if C8 k j then some v else none)
|[]=>by simp[Yh]
|(a,b)::r=>by
 have c:=Ub k j v r;simp only[List.cons_append,Yh,c];split<;>simp
theorem Wo (k:D)(v:V):∀l:List (D×V),Yh k l=none->EL k v l=l++[(k,v)]
|[],_=>by simp[EL]
|(a,b)::r,h=>by
 simp only[Yh]at h;split at h
 ·cases h
 ·rename_i e;simp only[EL,e,BF,Ci,List.cons_append,Wo k v r h]
theorem Ql (l:List B)(n:B):∀k,k<=l.length->Yh (.AM n) (Y3 l k)=(CU (l.take k) n).map λi=>V.d (.int .i64 i)
|0,_=>by simp[Y3,Yh,CU]
|k+1,g=>by
 have c:=Ql l n k (by omega);have a:k<l.length:=g;rw[Y3,Cn a,Ca a,Yc8];simp only;by_cases b:l[k]∈l.take k
 ·rw[BL b,c];by_cases e:l[k]=n
  ·have:CU (l.take k) n≠none:=λh=>Jb.1 h (e▸b);cases h:CU (l.take k) n with
   |none=>exact absurd h this
   |some i=>simp
  ·simp[e]
 ·rw[Af b,Ub,c];by_cases e:l[k]=n
  ·cases h:CU (l.take k) n with
   |none=>
    have j:(l.take k).length=k:=by simp;omega
    simp[e,C8,j]
   |some i=>simp
  ·have f:¬n=l[k]:=λh=>e h.symm;simp[e,f,C8]
theorem Qm (l:List B)(n:B):∀k,U7 (.AM []) (.AM n) (Y3 l k)
|0=>⟨rfl,λe a=>by cases a⟩
|k+1=>by
 have b:=Qm l n k;rw[Y3];split
 ·exact b
 ·split
  ·exact b
  ·refine⟨b.1,λe a=>?_⟩;rw[DF]at a;rcases a with a|a
   ·exact b.2 e a
   ·simp only[DW]at a;subst a;rfl
theorem vL (p:Nat->Bool)(k:D)(v:V):∀l:List (D×V),Ym p (l++[(k,v)])=(Ym p l||V.BJ p v)
|[]=>by simp[Ym]
|(a,b)::r=>by simp[Ym,vL p k v r,Bool.or_assoc]
theorem Yx (p:Nat->Bool)(l:List B):∀k,Ym p (Y3 l k)=false
|0=>rfl
|k+1=>by
 have a:=Yx p l k;rw[Y3];split
 ·exact a
 ·split
  ·exact a
  ·rw[vL,a];rfl
def DB {a:Type}(f:List a->a->Option a):List a->List a->Option (List a)
|pre,[]=>some pre
|pre,x::r=>(f pre x).bind λy=>DB f (pre++[y]) r
def Ju {a:Type}(l:List a)(f:a->Option a):Option (List a):=DB (λ_=>f) [] l
def Lo (a:List B)(b:List At)(u:At):Option At:=
 if u.CF=[] then some {u with base:=b.length,BP:=1}
 else (CU a u.CF).bind λ(n:Nat)=>(b[n]?).map λv=>{u with base:=v.base,BP:=if 2<=u.BQ/\u.BQ<=1000/\u.BQ*v.BP<=1099511627776 then u.BQ*v.BP else 0}
def Js (a:List B)(f:Ad):Option Ad:=
 if f.type.kind=1/\f.type.CF≠[] then (CU a f.type.CF).map λ(n:Nat)=>{f with type:={f.type with unit:=n} }
 else some {f with type:={f.type with unit:=-1} }
def O8 (a:List B):List Nat->List B->Option (List Nat)
|pre,[]=>some pre
|pre,x::r=>(CU a x).bind λn=>O8 a (pre++[n]) r
def Lr (a:List B)(d:Ax):Option Ax:=
 (O8 a [] d.names).bind λl=>(CU a d.name).map λ(n:Nat)=>{d with Aw:=l.map Int.ofNat,CA:=n}
def V4 (a b:List B)(s:AI):Option AI:=
 (CU a s.FJ).bind λ(i:Nat)=>(Ju s.AL (Js b)).bind λd=>(Ju s.Aj (Lr (s.AL.map Ad.name))).map λc=>{s with Bz:=i,AL:=d,Aj:=c}
def Ya (a:List AI)(s:Int):List B:=(match a[s.toNat]? with|some x=>x.AL|none=>[]).map Ad.name
def J9 (b:List AI)(a:List Am)(t:BG):Option BG:=
 if t.name=[] then some {t with var:=-1,field:=0}
 else (CU (a.map Am.name) t.name).bind λ(v:Nat)=>(a[v]?).bind λx=>(CU (Ya b x.AP) t.path).map λ(f:Nat)=>{t with var:=v,field:=f}
def Mj (a:List AI)(b:List Am)(x:Am):Option Am:=
 (CU (a.map AI.name) x.kind).bind λ(n:Nat)=>(J9 a b x.CF).map λt=>{x with AP:=n,CF:=t}
def Mh (c:List AI)(d:List Am)(a:BB):Option BB:=
 (J9 c d a.a).bind λx=>(J9 c d a.b).map λy=>{a with a:=x,b:=y}
def M3 (a:List AI)(s:Int)(b:List Am)(x:Ba):Option Ba:=
 (CU (Ya a s) x.path).bind λ(n:Nat)=>(J9 a b x.Ce).map λt=>{x with field:=n,Ce:=t}
def Ji (a:List AI)(r:Ai):Option Ai:=
 (CU (a.map AI.name) r.head).bind λ(n:Nat)=>(DB (Mj a) [] r.AW).bind λb=>(Ju r.Ak (Mh a b)).bind λc=>(Ju r.BK (M3 a n b)).map λd=>{r with AP:=n,AW:=b,Ak:=c,BK:=d}
def Nw (c:List AI)(a b:Int)(m:A8):Option A8:=
 (CU (Ya c a) m.Aw).bind λ(x:Nat)=>(CU (Ya c b) m.CA).map λ(y:Nat)=>{m with a:=x,b:=y}
def Zc (d:List AI)(c:Ag):Option Ag:=
 (CU (d.map AI.name) c.Aw).bind λ(a:Nat)=>(CU (d.map AI.name) c.CA).bind λ(b:Nat)=>(Ju c.Ap (Nw d a b)).map λe=>{c with a:=a,b:=b,Ap:=e}
def OL (a:List AI)(m:CM):Option CM:=
 (CU (a.map AI.name) m.name).bind λ(s:Nat)=>(CU (Ya a s) m.path).map λ(f:Nat)=>{m with AP:=s,field:=f}
def W5 (a:List AI)(p:AR):Option AR:=
 (Ju p.CW (OL a)).map λl=>{p with CW:=l}
def W7 (s:Ah):Option Ah:=
 (DB (Lo (s.Au.map At.name)) [] s.Au).bind λe=>
 (Ju s.AD (V4 s.Al (s.Au.map At.name))).bind λd=>
 (Ju s.AK (Ji s.AD)).bind λc=>
 (Ju s.AQ (Zc s.AD)).bind λa=>
 (Ju s.AN (W5 s.AD)).map λb=>{s with Au:=e,AD:=d,AK:=c,AQ:=a,AN:=b}
def PI (s:Ah):Bool:=
 !(decide s.Al.Nodup&&decide (s.Au.map At.name).Nodup&&decide (s.AD.map AI.name).Nodup&&decide (s.AN.map AR.name).Nodup&&s.AD.all (λx=>decide (x.AL.map Ad.name).Nodup)&&s.AK.all (λr=>decide (r.AW.map Am.name).Nodup))
def Yfe:Nat:=0x164f6b60107b4011aaa03473b63107e3f36ba084ae200e04d07507b44b58164f0060da00b2791954ff00aa0400aad80631bc7c23f37bf
def pH:Nat:=0x1ac807e6b60ae07e6b60570682797345dc18f648
def jN:S:=zS [(zS [] Yfe)] pH
theorem Zna:Xr Tryz.prog 24 1 jN [.t 2]=true:=by kernel_rfl
def Yfv:Nat:=0x1904b7674b00e181b6400e0392cc00c04f14006620388000b34900a30d1a853103d1a30092c700b2d500723305c8d60c600553104f00b0ce2c70060390ea23356204f0c69be03d18300603e06e2b180f06b00a40a00a0910ce0391e205407c03e0768d81df0c00623a356201004590400a8809b903c0831ca7de038a2b11c08d03906e03b06a0759e103b4959b903c0831ca7de038a2b11c08d06903b08309303906e03b54204eb53b1903c11c05c03606e03806a39009104d00803907605800a145167036abf00a6f30bf0340f00348f400a325009033b5d032c3862802f39976f030c3888b10505b008c750de02c11d0270ba02b2c9713be00881907130292c971300a19a7132687130260de025a6e0ba6eb022aa937f0230f037f14c37f0212c937f00a151c8311d0ab00813f01d0ed0705bf01c2c95bf00a1515bf01a0de01911d0140bab63aa93e60170f03e61843e60152c93e600a19a9d304124001242201108a00a0540120b102428a47f00a88001029c0052180180a902e00f2b200d1830b51bc00e1ae00e8f4880a420ed00f1b0
def pQ:Nat:=0x126547fb760ae47fb763176f854006b00b41704932513c0890de9900ba01e3f391200703803b58f91201d00508904110ca6391217503b0750060ba01e3f391200703803b091cae2ef00807605876904da3b0762726f30bf0030c50440380631d200211d15508d8060e739613f00008807039612f04c39614c396ae639614807903346239612a000b6d77104b0e50010d502c00409e1120040c98537d801028a06305402b0b37fa0c87f909a027b79025cb00240d7c7c0c840909a0200439da01e04302024a05402802009102602076b2d609154d548ad5bee82c13d0490100b60bfa6c0bb01c0699a201b25522c01a53f03ca0e22caee01753c22c0485626c242a0694ea01425513e01301100203ca0e13e01207901051b13e048562bbf0e100d89800b1a604e8ab013469175b96
def js:S:=zS [(zS [] Yfv)] pQ
theorem Znu:Xr Tryz.prog 49 2 js [.t 4]=true:=by kernel_rfl
def Yf5:Nat:=0x12848ee6280241810230de0327730238ee0300c501e02fb5d00cc7513a02e07623f02348618e15602c0de02b27b5630276508d402c4eebe007603770302906703606602808a88b0290b17930235ba00a15602629c00552300b02e0252b23cb0210b550c0241ae4320235ba1566020230ed0251b0
def Yf6:Nat:=0x1131539086a490ba1810079b377387d0d70c559a9af0ba39cb220440470d06701346fe04101a0830190cc0110b50176c104108d0364cb01d01606e1caa4f31b01d55e08a0130cc0120b5002045012076b5b67062a58f0100de00f0ba56300b65000b0fe4ee00e27b07603570300d06703406600c08a00606b00d0b179300743c1b408600778f6c03a64310094db0070b5041b1c0081ae13987d2190e80ed0091b0
def pY:Nat:=0x125f0330de0321c709604503307606f1300238ee1fe2848ee0970210c5020a5d021b9d87d0060ae87d00605704704106b15004e005b940440480540c505d8a3004a3613a001b610618300374cd00112a0a412a0370250fb0338407031488ae0661550590e9034a88bc31360e00e5069121008157b8004402f75306183002b08f02a1120560c90910260750250a402502b0250290266e5036028ae20664f42eb0276bcbc30240e00230696f615754e0440227530610860e008f88405601f85d0750180a40186e501c01901e03070301b00202f06601a58504e01a6bcbc3b6601401742b9d007500f0a400f01502501386002e7030123930660111dd00228200b75808757800e0c700d039039011a153750fdad216d000032040895
def je:S:=zS [(zS [] Yf6),(zS [] Yf5)] pY
theorem Zof:Xr Tryz.prog 81 1 je [.t 2,.t 3]=true:=by kernel_rfl
def tP:Nat:=0x16ce3a30435db6f03a304306168d0131680b38460db0e200fa0b094693
def kW:Nat:=0x16ef
def mw:S:=zS [(zS [] tP)] kW
theorem Y9y:Xr Tryz.prog 165 2 mw [.t 4,.t 5]=true:=by kernel_rfl
def Ze9:Nat:=0x107305401e0422f7afb
def my:S:=zS [] Ze9
theorem Y9z:Xr Tryz.prog 166 1 my [.t 2]=true:=by kernel_rfl
def Yn8:Nat:=0x16ce3a35a65db6f03a35a6c600058a011939b3350127b2c3b
def Zlk:Nat:=0x16ef
def mz:S:=zS [(zS [] Yn8)] Zlk
theorem Y90:Xr Tryz.prog 167 2 mz [.t 4,.t 5]=true:=by kernel_rfl
def Zfa:Nat:=0x17df39b108
def nA:S:=zS [] Zfa
theorem Y91:Xr Tryz.prog 168 1 nA [.t 2]=true:=by kernel_rfl
def Yn9:Nat:=0x193905c0bc01e94f05c0bc93c1320110b33a693105c0db09a00f7ae
def Zll:Nat:=0x16ef
def nB:S:=zS [(zS [] Yn9)] Zll
theorem Y92:Xr Tryz.prog 169 2 nB [.t 4,.t 5]=true:=by kernel_rfl
def Yoa:Nat:=0x19390580bc01e94f0580bc68d01305e8a061d9310580db003c3b
def Zlm:Nat:=0x16ef
def nC:S:=zS [(zS [] Yoa)] Zlm
theorem Y93:Xr Tryz.prog 170 2 nC [.t 4,.t 5]=true:=by kernel_rfl
def Yob:Nat:=0x19393805db94f380c6000b8a0388931c82c3b
def Zln:Nat:=0x16ef
def nE:S:=zS [(zS [] Yob)] Zln
theorem Y95:Xr Tryz.prog 172 2 nE [.t 4,.t 5]=true:=by kernel_rfl
def Yoc:Nat:=0x193900807b5db94f00807bc600088a011952a93108d0db35300f7ae
def Zlo:Nat:=0x16ef
def nI:S:=zS [(zS [] Yoc)] Zlo
theorem Y97:Xr Tryz.prog 174 2 nI [.t 4,.t 5]=true:=by kernel_rfl
def Zfc:Nat:=0x17df032108
def nJ:S:=zS [] Zfc
theorem Y98:Xr Tryz.prog 175 1 nJ [.t 2]=true:=by kernel_rfl
def tQ:Nat:=0x1b87
def kX:Nat:=0x12bd13701001500f02b4ab546270222a1923400ea9882f00c1a50d71670a400700c0251f001e00908d50700104010c1887a9
def nK:S:=zS [(zS [] tQ)] kX
theorem Y99:Xr Tryz.prog 176 2 nK [.t 4]=true:=by kernel_rfl
def gq:S2:=zL [] [] Yfe
def Xy2:=(by cbv:gq=_)
def Zdd:S2:=zL [] [gq] pH
def Zgv:=(show Zdd=_ from (λ(a:S2)=>(by cbv:zL [] [a] pH=_)) gq)
theorem Zjg:jN.AZ []=some Zdd:=by kernel_rfl
def gU:S2:=zL [] [] Yfv
def O4:=(by cbv:gU=_)
def Zdy:S2:=zL [] [gU] pQ
def Zbj:=(show Zdy=_ from (λ(a:S2)=>(by cbv:zL [] [a] pQ=_)) gU)
theorem Zj0:js.AZ []=some Zdy:=by kernel_rfl
def iN:S2:=zL [] [] Yf5
def Xzn:=(by cbv:iN=_)
def iO:S2:=zL [] [] Yf6
def Xzo:=(by cbv:iO=_)
def Zel:S2:=zL [] [iO,iN] pY
def Zhp:=(show Zel=_ from (λ(a b:S2)=>(by cbv:zL [] [a,b] pY=_)) iO iN)
theorem Zkl:je.AZ []=some Zel:=by kernel_rfl
def fK:S2:=zL [] [] tP
def yZ:=(by cbv:fK=_)
def Yv0:S2:=zL [] [fK] kW
def Y09:=(show Yv0=_ from (λ(a:S2)=>(by cbv:zL [] [a] kW=_)) fK)
theorem Y65:mw.AZ []=some Yv0:=by kernel_rfl
def Yv1:S2:=zL [] [] Ze9
def Y1a:=(by cbv:Yv1=_)
theorem Y66:my.AZ []=some Yv1:=by kernel_rfl
def Yv2:S2:=zL [] [] Zfa
def Y1b:=(by cbv:Yv2=_)
theorem Y67:nA.AZ []=some Yv2:=by kernel_rfl
def Yv5:S2:=zL [] [] Zfc
def Y1e:=(by cbv:Yv5=_)
theorem Y7a:nJ.AZ []=some Yv5:=by kernel_rfl
def fL:S2:=zL [] [] tQ
def ya:=(by cbv:fL=_)
def Yv6:S2:=zL [] [fL] kX
def Y1f:=(show Yv6=_ from (λ(a:S2)=>(by cbv:zL [] [a] kX=_)) fL)
theorem Y7b:nK.AZ []=some Yv6:=by kernel_rfl
def lP (E z:Nat)(c:D):S2:=.seq (.rg [] [(1,(.a (.t 1))),(4,(.a (.t 4))),(5,(.a (.t 5))),(13,(.a (.t 13))),(14,(.a (.t 14))),(15,(.a (.t 15))),(16,(.b (.Bc .lss (.t 0) (.t 1)) (.a (.t 15)) (.a (.t 14))))] [])
 (.seq (.cond (.t 16) (.skip) (.exit 0))
 (.seq (.block 1 (.seq (.rg [.Aa [] (.u (.ld z true (.t 0)) (.b (.DI z (.t 0) (.t 1)) (.a (.t 13)) (.a (.t 15)))),.lt 19 [] (.u (.ld z true (.t 0)) (.b (.DI z (.t 0) (.t 1)) (.a (.t 13)) (.a (.t 15)))),.op (some 7) (.alloc E c),.op none (.st z (.t 7) (.t 19))] [(1,(.a (.t 1))),(4,(.a (.t 4))),(5,(.a (.t 5))),(6,(.a (.t 15))),(7,(.a (.t 7))),(13,(.a (.t 13))),(14,(.a (.t 14))),(15,(.a (.t 15)))] [])
 (.seq (.seq (.rg [.Aa [] (.u (.ld z true (.t 0)) (.a (.t 7))),.lt 23 [] (.u (.ld z true (.t 0)) (.a (.t 7))),.lt 22 [] (.a (.t 1)),.op (some 24) (.Cq (.t 22) [(.t 23)]),.lt 21 [] (.a (.t 4)),.op (some 25) (.Ib (.AM []) (.int .i64 0) true (.t 21) (.t 24)),.Aa [] (.u (.ext (.t 0) 0) (.a (.t 25)))] [(1,(.a (.t 1))),(4,(.a (.t 4))),(5,(.a (.t 5))),(6,(.a (.t 6))),(7,(.a (.t 7))),(9,(.u (.ext (.t 0) 1) (.a (.t 25)))),(13,(.a (.t 13))),(14,(.a (.t 14))),(15,(.a (.t 15)))] [])
 (.seq (.rg [] [(1,(.a (.t 1))),(4,(.a (.t 4))),(5,(.a (.t 5))),(6,(.a (.t 6))),(7,(.a (.t 7))),(13,(.a (.t 13))),(14,(.a (.t 14))),(15,(.a (.t 15))),(28,(.a (.t 9)))] [])
 (.cond (.t 28) (.seq (.rg [] [(1,(.a (.t 1))),(4,(.a (.t 4))),(5,(.a (.bool true))),(13,(.a (.t 13))),(14,(.a (.t 14))),(15,(.a (.t 15)))] [])
 (.exit 1)) (.skip))))
 (.rg [.Aa [] (.u (.ld z true (.t 0)) (.a (.t 7))),.lt 31 [] (.u (.ld z true (.t 0)) (.a (.t 7))),.lt 30 [] (.a (.t 1)),.op (some 32) (.Cq (.t 30) [(.t 31)]),.lt 33 [] (.a (.t 6)),.lt 29 [] (.a (.t 4)),.op none (.C7 (.AM []) (.t 29) (.t 32) (.t 33))] [(1,(.a (.t 1))),(4,(.a (.t 4))),(5,(.a (.t 5))),(13,(.a (.t 13))),(14,(.a (.t 14))),(15,(.a (.t 15)))] []))))
 (.rg [] [(1,(.a (.t 1))),(4,(.a (.t 4))),(5,(.a (.t 5))),(13,(.a (.t 13))),(14,(.a (.t 14))),(15,(.b (.Bc .add (.t 0) (.t 1)) (.a (.t 15)) (.a (.int .i64 1))))] [])))
def N5 (E z:Nat)(b:D):S2:=.seq (.rg [] [(0,(.a (.t 0))),(1,(.a (.t 1))),(5,(.a (.bool false)))] [])
 (.seq (.rg [.Aa [] (.u (.CV (.t 0)) (.a (.t 0))),.lt 11 [] (.u (.CV (.t 0)) (.a (.t 0))),.op (some 12) (.HP (some (.t 11)))] [(0,(.a (.t 0))),(1,(.a (.t 1))),(4,(.a (.t 12))),(5,(.a (.t 5)))] [])
 (.seq (.seq (.rg [] [(1,(.a (.t 1))),(4,(.a (.t 4))),(5,(.a (.t 5))),(13,(.a (.t 0))),(14,(.u (.CV (.t 0)) (.a (.t 0)))),(15,(.a (.int .i64 0)))] [])
 (.block 0 (.loop [1,4,5,13,14,15] (lP E z b))))
 (.seq (.rg [] [(4,(.a (.t 4))),(5,(.a (.t 5)))] [])
 (.ret))))
section
variable {P:Az} {p:Program} (hP:P.p=p) (hm:p.follows .mixedOrders=true)
include hP hm
theorem SX {f E z o:Nat}{y:D}{ir:S}(M:Xr p f 2 ir [.t 4,.t 5]=true)(L:ir.AZ []=some (N5 E z y))
 {w:Type} {l:List w} {c:w->D} {nm:w->B} (hl:l.length<=9223372036854775807) (J:Xd p o=true) (u:∀(x:w)(j:AB)(K:A7->AB->Prop),K (.ret (.d (.AM (nm x)))) j->AV P o [.d (c x)] j K)
 (O:∀x,(c x).sz=z) (H:∀x,V.isAgg (.d (c x))=true) (N:∀x,(c x).shape=y.shape)
 {j:AB} {K:A7->AB->Prop} (h:K (.ret (.BE [.mp (fresh j),.d (.bool (!decide (l.map nm).Nodup))])) ((fresh j,.map (Y3 (l.map nm) l.length))::j)):
 AV P f [.d (.AF z (l.map c)),.fn o [] []] j K:=by
 refine Xk hP hm M L BD.nil λ_ n=>?_;have q:Xd P.p o=true:=by rw[hP];exact J
 simp[N5];refine Ae.upto l.length (λk=>[(1,.fn o [] []),(4,.mp (fresh j)),(5,.d (.bool (!decide ((l.map nm).take k).Nodup))),(13,.d (.AF z (l.map c))),(14,.d (.int .i64 l.length)),(15,.d (.int .i64 k))])
  (λk=>(fresh j,.map (Y3 (l.map nm) k))::j) (λ_=>True) trivial (by simp) (by simp[Y3]) ?_ ?_
 ·intro k Z _ R rn re rr rp
  have wr:IntKind.i64.wrap ((k:Int)+1)=(k:Int)+1:=IntWalk.i64_in _ (by omega);have hx:=O l[k];have hs:=N l[k];have Q:(c l[k]).shape.size=z:=by rw[CC];exact hx
  have G:=H l[k];have s:k<(l.map nm).length:=by simpa using Z
  have W:=Ql (l.map nm) (nm l[k]) k (by simp;omega);have X:=Qm (l.map nm) (nm l[k]) k;have T:y.shape.size=z:=by rw[<-hs];exact Q
  have ts:(l.map nm).take (k+1)=(l.map nm).take k++[nm l[k]]:=by rw[Ca s];simp
  have U:Y3 (l.map nm) (k+1)=if nm l[k]∈(l.map nm).take k then Y3 (l.map nm) k else Y3 (l.map nm) k++[(.AM (nm l[k]),.d (.int .i64 k))]:=by
   rw[Y3,Cn s];simp
  simp[lP,Z,hx,hs,Q,T,q];refine⟨G,u _ _ _ ?_⟩;simp[W,X];cases v:CU ((l.map nm).take k) (nm l[k]) with
  |some i=>
   have g:nm l[k]∈(l.map nm).take k:=by
    rcases Classical.em (nm l[k]∈(l.map nm).take k) with h|h
    ·exact h
    ·rw[Jb.2 h]at v;cases v
   have m:¬((l.map nm).take (k+1)).Nodup:=by
    rw[ts,Em];exact λr=>r.2.2 _ g _ (by simp) rfl
   simp;refine rn [] _ _ trivial (by simp[wr,m]) ?_ (by simp[AE]) ?_
   ·simp[U,g,AE]
   ·simp[AE,AH,Yx]
    exact X8 n (by omega)
  |none=>
   have g:=Jb.1 v;simp[Q,G];refine⟨G,u _ _ _ ?_⟩;have F:Yh (.AM (nm l[k])) (Y3 (l.map nm) k)=none:=by rw[W,v];rfl
   have m:decide ((l.map nm).take (k+1)).Nodup=decide ((l.map nm).take k).Nodup:=by
    rw[ts,decide_eq_decide,Em];constructor
    ·exact λr=>r.1
    ·refine λr=>⟨r,by simp,λa h1 b Y=>?_⟩
     simp only[DW]at Y;subst Y;exact λe=>g (e▸h1)
   simp[X,Wo _ _ _ F];refine rn [] _ _ trivial (by simp[wr,m]) ?_ (by simp[AE]) ?_
   ·simp[U,g,AE]
   ·simp[AE,AH,Yx]
    exact X8 n (by omega)
 ·intro _ R re rr rp
  simp[lP];refine re _ _ _ ?_;have ht:(l.map nm).take l.length=l.map nm:=JI (by simp);simp[ht];refine⟨[fresh j],by simp[AE],?_,?_⟩
  ·simp[AE,AH,Yx]
   exact X8 n (by omega)
  ·simpa[AE]using h
end
theorem Yjd:mz.AZ []=some (N5 88 5 (.agg [.AM [],.AM [],.int .i64 0,.int .i64 0,.int .i64 0])):=by kernel_rfl
theorem Yi2:Xd Tryz.prog 168=true:=by kernel_rfl
theorem X0z:nB.AZ []=some (N5 54 6 (.agg [.AM [],.AM [],.int .i64 0,.int .i64 0,.AT,.AT])):=by kernel_rfl
theorem X0q:Xd Tryz.prog 37=true:=by kernel_rfl
theorem Xw9:nC.AZ []=some (N5 77 3 (.agg [.AM [],.AT,.int .i64 0])):=by kernel_rfl
theorem Xw6:Xd Tryz.prog 171=true:=by kernel_rfl
theorem Yae:nE.AZ []=some (N5 136 11 (.agg [.AM [],.agg [.int .i64 0,.int .i64 0,.int .i64 0,.AM [],.int .i64 0,.AT],.agg (List.replicate 4 (.int .i64 0))])):=by kernel_rfl
theorem X98:Xd Tryz.prog 173=true:=by kernel_rfl
theorem Yjc:nI.AZ []=some (N5 50 8 (.agg [.AM [],.AM [],.int .i64 0,.agg [.AM [],.AM [],.int .i64 0,.int .i64 0,.int .i64 0]])):=by kernel_rfl
theorem Yi1:Xd Tryz.prog 175=true:=by kernel_rfl
section
variable {P:Az} (hP:P.p=Tryz.prog)
include hP
theorem Yjg {x:At}{a:AB}{K:A7->AB->Prop}(h:K (.ret (.d (.AM x.name))) a):AV P 168 [.d x.enc] a K:=by
 refine AU.Bm (AJ hP AO (ds:=[x.enc]) Y91 Y67 BD.nil ?_);simp[Y1b,At.enc];exact h
theorem Xz2 {l:List At}(b:l.length<=9223372036854775807){a:AB}{K:A7->AB->Prop}(h:K (.ret (.BE [.mp (fresh a),.d (.bool (!decide (l.map At.name).Nodup))])) ((fresh a,.map (Y3 (l.map At.name) l.length))::a)):
 AV P 167 [.d (.AF 5 (l.map At.enc)),.fn 168 [] []] a K:=
 SX hP AO (nm:=At.name) Y90 Yjd b Yi2 (λx a K h=>Yjg hP h) (λ_=>rfl) (λ_=>rfl) (λ_=>rfl) h
theorem Xpl {l:List AI}(b:l.length<=9223372036854775807){a:AB}{K:A7->AB->Prop}(h:K (.ret (.BE [.mp (fresh a),.d (.bool (!decide (l.map AI.name).Nodup))])) ((fresh a,.map (Y3 (l.map AI.name) l.length))::a)):
 AV P 169 [.d (.AF 6 (l.map AI.enc)),.fn 37 [] []] a K:=
 SX hP AO (nm:=AI.name) Y92 X0z b X0q (λx a K h=>lE hP h) (λ_=>rfl) (λ_=>rfl) (λ_=>rfl) h
theorem Xlw {l:List AR}(b:l.length<=9223372036854775807){a:AB}{K:A7->AB->Prop}(h:K (.ret (.BE [.mp (fresh a),.d (.bool (!decide (l.map AR.name).Nodup))])) ((fresh a,.map (Y3 (l.map AR.name) l.length))::a)):
 AV P 170 [.d (.AF 3 (l.map AR.enc)),.fn 171 [] []] a K:=
 SX hP AO (nm:=AR.name) Y93 Xw9 b Xw6 (λx a K h=>Zhw hP h) (λ_=>rfl) (λ_=>rfl) (λ_=>rfl) h
theorem Xwu {l:List Ad}(b:l.length<=9223372036854775807){a:AB}{K:A7->AB->Prop}(h:K (.ret (.BE [.mp (fresh a),.d (.bool (!decide (l.map Ad.name).Nodup))])) ((fresh a,.map (Y3 (l.map Ad.name) l.length))::a)):
 AV P 172 [.d (.AF 11 (l.map Ad.enc)),.fn 173 [] []] a K:=
 SX hP AO (nm:=Ad.name) Y95 Yae b X98 (λx a K h=>Y17 hP h) (λ_=>rfl) (λ_=>rfl) (λ_=>rfl) h
theorem Yjf {x:Am}{a:AB}{K:A7->AB->Prop}(h:K (.ret (.d (.AM x.name))) a):AV P 175 [.d x.enc] a K:=by
 refine AU.Bm (AJ hP AO (ds:=[x.enc]) Y98 Y7a BD.nil ?_);simp[Y1e,Am.enc,BG.enc];exact h
theorem Xz1 {l:List Am}(b:l.length<=9223372036854775807){a:AB}{K:A7->AB->Prop}(h:K (.ret (.BE [.mp (fresh a),.d (.bool (!decide (l.map Am.name).Nodup))])) ((fresh a,.map (Y3 (l.map Am.name) l.length))::a)):
 AV P 174 [.d (.AF 8 (l.map Am.enc)),.fn 175 [] []] a K:=
 SX hP AO (nm:=Am.name) Y97 Yjc b Yi1 (λx a K h=>Yjf hP h) (λ_=>rfl) (λ_=>rfl) (λ_=>rfl) h
end
abbrev Y5:D:=.iface 163 (.agg [])
theorem Ysp:Xd Tryz.prog 166=true:=by kernel_rfl
section
variable {P:Az} (hP:P.p=Tryz.prog)
include hP
theorem Yem {x:B}{a:AB}{K:A7->AB->Prop}(h:K (.ret (.d (.AM x))) a):AV P 166 [.d (.AM x)] a K:=by
 refine AU.Bm (AJ hP AO (ds:=[.AM x]) Y9z Y66 BD.nil ?_);simp[Y1a];exact h
theorem X9j {l:List B}(M:l.length<=9223372036854775807){g:AB}{K:A7->AB->Prop}(h:K (.ret (.BE [.mp (fresh g),.d (.bool (!decide l.Nodup))])) ((fresh g,.map (Y3 l l.length))::g)):
 AV P 165 [.d (Xg l),.fn 166 [] []] g K:=by
 have f:Xd P.p 166=true:=by rw[hP];exact Ysp
 refine Xk hP AO Y9y Y65 BD.nil λ_ m=>?_;simp only[Xg];simp[Y09];refine Ae.upto l.length (λk=>[(1,.fn 166 [] []),(4,.mp (fresh g)),(5,.d (.bool (!decide (l.take k).Nodup))),(13,.d (.AF 1 (l.map .AM))),(14,.d (.int .i64 l.length)),(15,.d (.int .i64 k))])
  (λk=>(fresh g,.map (Y3 l k))::g) (λ_=>True) trivial (by simp) (by simp[Y3]) ?_ ?_
 ·intro k w _ R y x L J;have F:IntKind.i64.wrap ((k:Int)+1)=(k:Int)+1:=IntWalk.i64_in _ (by omega);have o:=w;have t:=Ql l l[k] k (by omega);have u:=Qm l l[k] k;have z:l.take (k+1)=l.take k++[l[k]]:=by rw[Ca o]
  have s:Y3 l (k+1)=if l[k]∈l.take k then Y3 l k else Y3 l k++[(.AM l[k],.d (.int .i64 k))]:=by
   rw[Y3,Cn o]
  simp[yZ,w,f];refine Yem hP ?_;simp[t,u];cases q:CU (l.take k) (l[k]) with
  |some i=>
   have c:l[k]∈l.take k:=by
    rcases Classical.em (l[k]∈l.take k) with h|h
    ·exact h
    ·rw[Jb.2 h]at q;cases q
   have j:¬(l.take (k+1)).Nodup:=by
    rw[z,Em];exact λn=>n.2.2 _ c _ (by simp) rfl
   simp;refine y [] _ _ trivial (by simp[F,j]) ?_ (by simp[AE]) ?_
   ·simp[s,c,AE]
   ·simp[AE,AH,Yx];exact X8 m (by omega)
  |none=>
   have c:=Jb.1 q;simp[f];refine Yem hP ?_;have r:Yh (.AM l[k]) (Y3 l k)=none:=by rw[t,q];rfl
   have j:decide (l.take (k+1)).Nodup=decide (l.take k).Nodup:=by
    rw[z,decide_eq_decide,Em];constructor
    ·exact λn=>n.1
    ·refine λn=>⟨n,by simp,λa G b v=>?_⟩;simp only[DW]at v;subst v;exact λe=>c (e▸G)
   simp[u,Wo _ _ _ r];refine y [] _ _ trivial (by simp[F,j]) ?_ (by simp[AE]) ?_
   ·simp[s,c,AE]
   ·simp[AE,AH,Yx];exact X8 m (by omega)
 ·intro _ R x L J;simp[yZ];refine x _ _ _ ?_;have H:l.take l.length=l:=JI (by simp);simp[H];refine⟨[fresh g],by simp[AE],?_,?_⟩
  ·simp[AE,AH,Yx];exact X8 m (by omega)
  ·simpa[AE]using h
theorem Yy {m:Nat}{l:List B}{n:B}{b:AB}(j:AA b m=some (.map (Y3 l l.length))){K:A7->AB->Prop}(h:∀i,CU l n=some i->K (.ret (.d (.int .i64 i))) b)(g:CU l n=none->K (.panic (.d Y5)) b):
 AV P 176 [.mp m,.d (.AM n)] b K:=by
 refine Aq hP AO Y99 Y7b BD.nil λ_ k=>?_;have a:=k [];have c:=Ql l n l.length (BV _);have f:=Qm l n l.length;rw[C0]at c;simp[Y1f,j,c,f];cases e:CU l n with
 |none=>
  simp[ya];exact⟨[],by simp,by simpa[AE]using a,by simpa[AE]using g e⟩
 |some i=>
  simp[ya];exact⟨[],by simp,by simpa[AE]using a,by simpa[AE]using h i e⟩
end
section
variable (ob:AB) (z n i f j k:Nat) (kd:IntKind) (m:Int) (p:List Nat) (b:Bool) (v:V) (E:Nat) (xs:List D) (vs:List V)
@[simp] theorem idxAV_sl:K4 z (.sl j n) (.d (.int kd m))=.ep j n z m.toNat 0 []:=by simp only[K4]
@[simp] theorem idxAS_sl:K3 ob z (.sl j n) (.d (.int kd m))=((0<=m/\m<n)/\Mn z (W2 n m.toNat (AA ob j))):=by simp[K3,J0]
@[simp] theorem elemO_arr:W2 n i (some (.A9 E z xs))=if n=xs.length then (xs.map V.d)[i]? else none:=by simp only[W2]
@[simp] theorem elemO_vec:W2 n i (some (.Ao E z vs))=if n=vs.length then vs[i]? else none:=by simp only[W2]
@[simp] theorem idxEK_s:Mn z (some v)=(v.size=z):=by simp only[Mn]
@[simp] theorem ldV_ep:Ga ob (.ep j n z i f p)=Mq (FW ob j n z i f p):=by simp only[Ga]
@[simp] theorem ldS_ep:H2 ob k b (.ep j n z i f p)=Pr k b (FW ob j n z i f p):=by
 simp only[H2,D4,Ga];cases FW ob j n z i f p<;>simp[F4,Pr,Mq]
@[simp] theorem atE_eq:FW ob j n z i f p=GN z f p (W2 n i (AA ob j)):=rfl
@[simp] theorem atEv_s:GN z f p (some v)=if z=v.size/\f=v.shape.off p then v.at p else none:=by simp only[GN]
@[simp] theorem fldAV_ep (a:Nat):W3 k f (.ep j n z i a p)=.ep j n z i (a+f) (p++[k]):=by simp only[W3]
@[simp] theorem fldAS_ep (a:Nat):IB ob k f (.ep j n z i a p)=True:=by simp[IB,Vk,W3]
@[simp] theorem Sh.MF (s:Sh):s.off []=0:=by cases s<;>simp[Sh.off]
@[simp] theorem Rcy (l:List Sh)(i:Nat)(p:List Nat):(Sh.node l).off (i::p)=Sh.BR (l.take i)+(l.getD i .AX).off p:=by simp only[Sh.off]
end
section
variable {P:Az} {sl:Xb} {ob:AB} {KO Pn:V->AB->Prop} {x y:A} {K:V->Prop}
@[simp] theorem iwp_mks (E a B:Nat)(z:D):I.wp P sl ob KO Pn (.I4 E a B z x)=OD E a B z ob KO (x.ev sl):=by simp only[I.wp]
@[simp] theorem mksK_i (E a B:Nat)(z:D)(n:Int):OD E a B z ob KO (.d (.int .i64 n))=(0<=n/\n*B<=281474976710656/\KO (.sl (fresh ob) n.toNat) ((fresh ob,.A9 E a (List.replicate n.toNat z))::ob)):=by simp only[OD]
@[simp] theorem idxAK_sl (j n z:Nat)(a:IntKind)(m:Int):J0 ob z K (.sl j n) (.d (.int a m))=((0<=m/\m<n)/\Mn z (W2 n m.toNat (AA ob j))/\K (.ep j n z m.toNat 0 [])):=by simp only[J0]
@[simp] theorem stK_ep (n:Nat)(v:V)(j m z i f:Nat)(p:List Nat):GH ob n v KO (.ep j m z i f p)=M6 ob j m z i f p n v KO (AA ob j):=by simp only[GH]
@[simp] theorem stEo_s (n:Nat)(v:V)(j m z i f:Nat)(p:List Nat)(o:Ob):M6 ob j m z i f p n v KO (some o)=OO ob j i n o v z f p KO (W2 m i (some o)):=by simp only[M6]
@[simp] theorem stEv_s (n:Nat)(v:V)(j i z f:Nat)(p:List Nat)(o:Ob)(a:V):OO ob j i n o v z f p KO (some a)=((z=a.size/\f=a.shape.off p)/\M7 ob j i n o v a p KO (a.at p)):=by simp only[OO]
@[simp] theorem stEt_s (n:Nat)(v:V)(j i:Nat)(p:List Nat)(o:Ob)(c a:V):M7 ob j i n o v c p KO (some a)=(v.shape=a.shape/\a.size=n/\v.Eu=true/\∃b,c.set p v=some b/\KO .undef (AG ob j (Io o i b))):=by simp only[M7]
@[simp] theorem setEl_vec (E z i:Nat)(a:List V)(t:V):Io (.Ao E z a) i t=.Ao E z (a.set i t):=by simp only[Io]
@[simp] theorem setEl_arr (E z i:Nat)(a:List D)(t:D):Io (.A9 E z a) i (.d t)=.A9 E z (a.set i t):=by simp only[Io]
@[simp] theorem fldAK_ep (k f:Nat)(j n z i a:Nat)(p:List Nat):Vk ob k f K (.ep j n z i a p)=K (.ep j n z i (a+f) (p++[k])):=by simp only[Vk]
@[simp] theorem ldK_ep (n:Nat)(a:Bool)(j m z i f:Nat)(p:List Nat):D4 ob n a K (.ep j m z i f p)=F4 n a K (FW ob j m z i f p):=by simp only[D4]
@[simp] theorem nilcK_ep (j m z i f:Nat)(p:List Nat):He K (.ep j m z i f p)=K (.ep j m z i f p):=by simp only[He]
@[simp] theorem nilcS_ep (j m z i f:Nat)(p:List Nat):Lh (.ep j m z i f p)=True:=by simp[Lh]
end
theorem Ox {n a:AB}{id i E z k:Nat}{c:List V}{v:V}{d:D}(Y:AA n id=some (.Ao E z c))(q:c[i]? = some v)(W:Ct k n v=some (d,a))(g:AA a id=some (.Ao E z c))(hs:d.shape=v.shape):
 Wk n (AG a id (.Ao E z (c.set i (.d d)))):=λw ρ u=>by
 have p:i<c.length:=(EK.1 q).1;rcases u.BU id _ Y with⟨_,rfl⟩|⟨b,f,J,sp,Q,R,T,t,U⟩
 ·simp at p
 obtain⟨c1,G,H,L,e2,N,O,P⟩:=NV T q;obtain⟨⟨l,o,y,h,aa⟩,hk⟩:=dt k v n ρ G d a u O W;refine⟨l,o,y.swap g ?_⟩;have j:l.m id=some (.A9 b c.length f):=by
  obtain⟨o',F,p2⟩:=o.same id _ Q;rcases y.BU id _ g with⟨_,rfl⟩|⟨b',s,K,ab,r,_⟩
  ·simp at p
  ·rw[F]at r;cases p2 with
   |refl=>exact F
   |AY=>cases r
   |grow Z X=>
    simp only[Bu,RO.A9.injEq]at r;rcases X with⟨e,_⟩|⟨_,_,e⟩
    ·cases e
    ·simp only[RO.A9.injEq]at e;omega
 refine .inr ⟨b,f,J,sp,by simpa using j,R,?_,λx h=>?_,U⟩
 ·have M:c.set i (.d d)=c.take i++(.d d::c.drop (i+1)):=Ts.trans (by simp[p]);rw[M,L];refine Ok (G6 o _ _ N) ?_;simp only[Br];exact⟨_,H,rfl,by simpa only[V.Ac]using h,G6 o _ _ P⟩
 ·rcases QW h with h|rfl
  ·exact t x h
  ·have:=t v (List.mem_of_getElem? q);unfold V.size at this⊢;simpa[V.shape,hs]using this
theorem X35 {a b:AB}(h:a.Perm b):Ee a->Ee b/\∀j,AA b j=AA a j:=by
 induction h with
 |nil=>exact λ_=>⟨trivial,λ_=>rfl⟩
 |cons x _ t=>
  obtain⟨i,o⟩:=x;rintro⟨c,n⟩;obtain⟨m,d⟩:=t n;refine⟨⟨by rw[d];exact c,m⟩,λj=>?_⟩;simp only[AA,d]
 |swap x y l=>
  obtain⟨i,o⟩:=x;obtain⟨k,p⟩:=y;rintro⟨c,n,s⟩;simp only[AA]at c;split at c
  ·cases c
  ·rename_i e;refine⟨⟨?_,c,s⟩,λj=>?_⟩
   ·simp only[AA];rw[Af (λf=>e f.symm)];exact n
   ·simp only[AA];by_cases g:i=j
    ·subst g;rw[BL rfl,Af (λf=>e f.symm),BL rfl]
    ·rw[Af g,Af g]
 |trans _ _ q r=>
  intro h;obtain⟨m,d⟩:=q h;obtain⟨u,v⟩:=r m;exact⟨u,λj=>(v j).trans (d j)⟩
theorem ZJ {a b:AB}(h:a.Perm b):Wk a b:=λw e c=>by
 obtain⟨f,d⟩:=X35 h c.CX;exact⟨e,Tr.refl w e,λj x i=>c.BU j x (by rw[<-d];exact i),λj o g=>by rw[d];exact c.D1 j o g,c.inj,c.D7,c.Dn,c.DT,f⟩
theorem Wv.tr {w b:World}{ρ a:A0}(t:Tr w ρ b a){e:Ending}{o:A7}(h:Wv w ρ e o):Wv b a e o:=by
 cases e<;>cases o<;>first|exact(h:False).elim|skip
 ·exact Gg t h
 ·obtain⟨u,e,h⟩:=h;exact⟨u,e,Gg t h⟩
theorem AV.wk {P:Az}{f:Nat}{m:List V}{j:AB}{K:A7->AB->Prop}(h:AV P f m j λo b=>∃c,Wk b c/\K o c):AV P f m j K:=
 ⟨λw x a q p r=>(h.run w x a q p r).mono λe v ⟨o,b,g,⟨c,s,k⟩,d,n,t⟩=>by
  obtain⟨i,l,u⟩:=s v g n;refine⟨o,c,i,k,?_,u,t.trans l⟩;exact Wv.tr l d⟩
def A7.BJ (p:Nat->Bool):A7->Bool
|.ret v=>V.BJ p v
|.panic v=>V.BJ p v
theorem Wv.CB {w:World}{b:A0}{p:Nat->Bool}{e:Ending}{o:A7}(a:A7.BJ p o=false)(h:Wv w b e o):Wv w (b.CB p) e o:=by
 cases e<;>cases o<;>first|exact(h:False).elim|skip
 ·exact MP a h
 ·obtain⟨u,e,h⟩:=h;exact⟨u,e,MP a h⟩
theorem AV.Gb {P:Az}{f:Nat}{v:List V}{c:AB}{K:A7->AB->Prop}
 (h:AV P f v c λo b=>∃i d,Wk b i/\A7.BJ (AE (fresh c) d) o=false/\AH (AE (fresh c) d) (Xh (AE (fresh c) d) i)=true/\K o (Xh (AE (fresh c) d) i)):AV P f v c K:=
 ⟨λw T g r G H=>(h.run w T g r G H).mono λe R ⟨o,b,p,⟨i,d,J,L,M,N⟩,m,F,t⟩=>by
  obtain⟨q,u,Q⟩:=J R p F;have a:=t.trans u;refine⟨o,_,q.CB (AE (fresh c) d),N,Wv.CB L (Wv.tr u m),Q.CB M,?_⟩;refine⟨a.size,a.keep,λb j=>a.Cs b (Zv j),a.xo,a.gl,λid o j=>?_,a.tape,a.os,a.CO,a.drawn⟩;obtain⟨O,y,z⟩:=a.same id o j;have n:AE (fresh c) d id=false:=by
   obtain⟨x,s⟩:=r.D1 id o j;have l:¬fresh c<=id:=λk=>by rw[Xu _ _ k]at s;cases s
   simp[AE,l]
  exact⟨O,by simp only[A0.CB,n];exact y,z⟩⟩
theorem AV.pre {P:Az}{f:Nat}{m:List V}{l c:AB}{K:A7->AB->Prop}(s:Wk l c)(h:AV P f m c K):AV P f m l K:=
 ⟨λw v a q p r=>by
  obtain⟨j,g,u⟩:=s w v q;exact(h.run w j a u (g.gl.trans p) (LC g _ _ r)).mono λe x ⟨o,b,i,k,d,n,t⟩=>⟨o,b,i,k,d,n,g.trans t⟩⟩
theorem r7 {b:Type}{k:Nat}(f:b->D)(a:AB):∀l:List b,Ej (Ct (k+1)) a (l.map λx=>V.d (f x))=some (l.map f,a)
|[]=>rfl
|x::r=>by
 have e:Ct (k+1) a (.d (f x))=some (f x,a):=rfl;simp only[Cg,Ej,e,r7 f a r,Uq]
theorem ID {b:Type}{k id E z n:Nat}(f:b->D){l:List b}{a:AB}(h:AA a id=some (.Ao E z (l.map λx=>V.d (f x))))(g:z≠0)(c:n=l.length):Ct (k+2) a (.sl id n)=some (.AF z (l.map f),AG a id .AY):=by
 have e:Ct (k+2) a (.sl id n)=Po (Ct (k+1)) a id n (AA a id):=rfl;rw[e,h];simp only[Po,r7,List.length_map];rw[BL ⟨g,c⟩];simp only[YT,h,oo]
theorem Yew {k id E z n:Nat}{b:List D}{a:AB}(h:AA a id=some (.A9 E z b))(d:z≠0)(c:n=b.length):Ct (k+1) a (.sl id n)=some (.AF z b,AG a id .AY):=by
 have e:Ct (k+1) a (.sl id n)=Po (Ct k) a id n (AA a id):=rfl;rw[e,h];simp only[Po];rw[BL ⟨d,c⟩]
def Vj (k:Nat):Nat:=if k=0 then 10 else 12+2*k
def Hb (k:Nat):List V:=(List.range k).map λj=>.mp (Vj j)
def D0 (a:List AI)(k:Nat):List B:=match a[k]? with
|some s=>s.AL.map Ad.name
|none=>[]
def Um (l:List B):Ob:=.map (Y3 l l.length)
def V5 (a:List AI):Nat->AB
|0=>[]
|k+1=>(Vj k,Um (D0 a k))::V5 a k
def Ep (k:Nat):AB:=if k=0 then[] else[(12,.Ao 174 1 (Hb k))]
def HJ (k:Nat):V:=if k=0 then .d .AT else .sl 12 k
abbrev TZ (k:Nat):Ob:=.box 177 (.agg [.mp 5,.mp 6,.mp 7,HJ k])
def Wp (y:Ah)(k:Nat)(c b a:Ob):AB:=[(8,Um (y.AN.map AR.name)),(7,Um (y.AD.map AI.name)),(6,Um (y.Au.map At.name)),(5,Um y.Al),(4,TZ k),(3,.box 29 (.d y.enc)),(2,c),(1,b),(0,a)]
def Y8 (y:Ah)(k:Nat)(c b a:Ob):AB:=Ep k++(Wp y k c b a++V5 y.AD k)
theorem Yng (k:Nat):10<=Vj k/\Vj k≠12/\Vj k≠11:=by unfold Vj;split<;>omega
theorem xq {a:List AI}{i:Nat}:∀k,i<k->AA (V5 a k) (Vj i)=some (Um (D0 a i))
|0,h=>absurd h (by omega)
|k+1,h=>by
 rw[V5,AA];by_cases e:i=k
 ·subst e;rw[BL rfl]
 ·rw[Af (by unfold Vj;split<;>split<;>omega)];exact xq k (by omega)
theorem vz {ss:List AI}:∀k,fresh (V5 ss k)=if k=0 then 0 else Vj (k-1)+1
|0=>rfl
|k+1=>by
 have c:=vz (ss:=ss) k;have a:fresh (V5 ss k)<=Vj k:=by
  rw[c];unfold Vj;split
  ·omega
  ·rename_i d;by_cases b:k-1=0
   ·rw[BL b];omega
   ·rw[Af b];omega
 rw[V5,fresh,BL a];simp
theorem vM (k:Nat):Hb (k+1)=Hb k++[.mp (Vj k)]:=by simp[Hb,List.range_succ]
theorem Wm (k:Nat):(Hb k).length=k:=by simp[Hb]
section
variable {y:Ah} {k:Nat} {o2 o1 o0:Ob}
theorem Wi (p:Nat->Bool):∀(a b:AB),Xh p (a++b)=Xh p a++Xh p b
|[],b=>rfl
|(j,o)::r,b=>by
 simp only[List.cons_append,Xh,Wi p r b];split<;>simp
theorem lz:AA (Y8 y k o2 o1 o0) 4=some (TZ k):=by
 unfold Y8 Wp Ep;split<;>simp[AA]
theorem aH (h:k≠0):AA (Y8 y k o2 o1 o0) 12=some (.Ao 174 1 (Hb k)):=by
 unfold Y8 Wp Ep;rw[Af h];simp[AA]
theorem T3:fresh (Y8 y k o2 o1 o0)=if k=0 then 9 else 11+2*k:=by
 have b:=vz (ss:=y.AD) k;unfold Y8 Wp Ep;by_cases h:k=0
 ·subst h;simp[V5]
 ·rw[Af h,Af h];rw[Af h]at b;by_cases c:k-1=0
  ·obtain rfl:k=1:=by omega
   simp[V5,Vj]
  ·have a:fresh (V5 y.AD k)=11+2*k:=by rw[b];unfold Vj;rw[Af c];omega
   have e:∀{j:Nat}{o:Ob}{r:AB},fresh r=11+2*k->j<13->fresh ((j,o)::r)=11+2*k:=λd f=>by
    rw[Yb,d,Af (by omega)]
   simp only[List.cons_append,List.nil_append]
   repeat' refine e ?_ (by omega)
   exact a
theorem Wa (p:Nat->Bool):∀(a b:AB),AH p (a++b)=(AH p a&&AH p b)
|[],b=>by simp[AH]
|(j,o)::r,b=>by
 have c:=Wa p r b;cases o<;>simp only[List.cons_append,AH,c,Bool.and_assoc]
theorem v7 (p:Nat->Bool)(a:List AI):∀k,AH p (V5 a k)=true
|0=>rfl
|k+1=>by simp[V5,AH,Um,Yx,v7 p a k]
theorem wy {p:Nat->Bool}:∀{k:Nat},(∀i,i<k->p (Vj i)=false)->BO p (Hb k)=false
|0,_=>rfl
|k+1,h=>by
 have c:∀(a b:List V),BO p (a++b)=(BO p a||BO p b):=λa b=>by
  induction a with
  |nil=>simp[BO]
  |cons x r d=>simp[BO,d,Bool.or_assoc]
 rw[vM,c,wy λi e=>h i (by omega)];simp[BO,V.BJ,h k (by omega)]
theorem Qt {p:Nat->Bool}(c:AH p [(2,o2),(1,o1),(0,o0)]=true)(d:p 5=false)(e:p 6=false)(f:p 7=false)(a:k≠0->p 12=false)(g:∀i,i<k->p (Vj i)=false):AH p (Y8 y k o2 o1 o0)=true:=by
 unfold Y8 Wp Ep;rw[Wa,Wa,v7];by_cases b:k=0
 ·simpa[b,AH,Um,Yx,V.BJ,BO,HJ,d,e,f]using c
 ·simpa[b,AH,Um,Yx,V.BJ,BO,HJ,d,e,f,a b,wy g]using c
theorem Y2l:AA (Y8 y k o2 o1 o0) 3=some (.box 29 (.d y.enc)):=by
 unfold Y8 Wp Ep;split<;>simp[AA]
theorem Ykh (a:k≠0):AG (AG (Y8 y k o2 o1 o0) 12 (.Ao 174 1 (Hb k++[.mp (Vj k)]))) 4 (.box 177 (.agg [.mp 5,.mp 6,.mp 7,.sl 12 (k+1)]))=Ep (k+1)++(Wp y (k+1) o2 o1 o0++V5 y.AD k):=by
 unfold Y8 Wp Ep;simp[a,AG,vM,HJ]
theorem Ych {n:Nat}{l:List Nat}(p:13<=n)(d:k≠0)(e:∀i,i<k->n<=Vj i->Vj i∈l):Xh (AE n l) (Y8 y k o2 o1 o0)=Y8 y k o2 o1 o0:=by
 have j:∀m,(∀i,i<m->n<=Vj i->Vj i∈l)->Xh (AE n l) (V5 y.AD m)=V5 y.AD m:=λm=>by
  induction m with
  |zero=>intro _;rfl
  |succ m g=>
   intro h;have b:AE n l (Vj m)=false:=by
    simp only[AE,ZR,MV,Bool.not_eq_eq_eq_not,Bool.not_false,List.contains_eq_mem,Bs];rcases FP (Vj m) n with a|a
    ·exact .inl (by omega)
    ·exact .inr (h m (by omega) a)
   rw[V5,Xh,b,g λi o=>h i (by omega)];simp
 unfold Y8;rw[Wi,Wi,j k e];have c:Xh (AE n l) (Wp y k o2 o1 o0)=Wp y k o2 o1 o0:=Xe (by simp[Wp];omega);have f:Xh (AE n l) (Ep k)=Ep k:=Xe (by simp[Ep,d];omega);rw[c,f]
theorem Ytu:AA (Y8 y k o2 o1 o0) 5=some (Um y.Al):=by
 unfold Y8 Wp Ep;split<;>simp[AA]
theorem Ytv:AA (Y8 y k o2 o1 o0) 6=some (Um (y.Au.map At.name)):=by
 unfold Y8 Wp Ep;split<;>simp[AA]
theorem Ytw:AA (Y8 y k o2 o1 o0) 7=some (Um (y.AD.map AI.name)):=by
 unfold Y8 Wp Ep;split<;>simp[AA]
theorem rV {i:Nat}(a:i<k):AA (Y8 y k o2 o1 o0) (Vj i)=some (Um (D0 y.AD i)):=by
 have b:=Yng i;have e:∀(j:Nat)(o:Ob)(r:AB),j≠Vj i->AA ((j,o)::r) (Vj i)=AA r (Vj i):=λj o r h=>by simp[AA,h]
 unfold Y8 Wp Ep;rw[Af (by omega)];simp only[List.cons_append,List.nil_append]
 repeat rw[e _ _ _ (by omega)]
 exact xq k a
theorem X28 (c:∀d,AH (AE 3 d) [(2,o2),(1,o1),(0,o0)]=true){n:Nat}{l:List Nat}(a:fresh (Y8 y k o2 o1 o0)<=n):AH (AE n l) (Y8 y k o2 o1 o0)=true:=by
 have b:=T3 (y:=y) (k:=k) (o2:=o2) (o1:=o1) (o0:=o0);have e:9<=n:=by
  rw[b]at a;split at a<;>omega
 refine Qt (X8 (ob:=[(2,o2),(1,o1),(0,o0)]) (by simpa using c) (by simp;omega)) (by simp[AE];omega) (by simp[AE];omega) (by simp[AE];omega) (λh=>?_) (λi f=>?_)
 ·rw[b,Af h]at a;simp[AE];omega
 ·rw[b,Af (by omega)]at a;have:Vj i<11+2*k:=by unfold Vj;split<;>omega
  simp[AE];omega
def W4 (a:AB):List Nat:=a.map (·.1)
theorem Ze {a:AB}{j:Nat}{o:Ob}(h:AA a j=some o):j∈W4 a:=by
 induction a with
 |nil=>cases h
 |cons e r b=>
  obtain⟨i,x⟩:=e;simp only[AA]at h;split at h
  ·rename_i e;subst e;simp[W4]
  ·exact Kl _ (b h)
theorem Yg {n:Nat}{l:List Nat}:∀{a:AB},(∀j∈W4 a,j∈l)->Xh (AE n l) a=a
|[],_=>rfl
|(i,x)::r,h=>by
 have c:AE n l i=false:=by simp[AE,h i (by simp[W4])]
 rw[Xh,c,Yg λj b=>h j (by simp only[W4]at b⊢;exact Kl _ b)];simp
end
section
variable {P:Az} (hP:P.p=Tryz.prog)
include hP
theorem X9l {y:Ah}(t:y.BC)(hn:y.AD.length<=1000000){o2 o1 o0:Ob}{K:A7->AB->Prop}(h:K (.ret (.BE [.ptr 4 [],.d (.bool (PI y))])) (Y8 y y.AD.length o2 o1 o0)):
 AV P 81 [.d y.enc] [(2,o2),(1,o1),(0,o0)] K:=by
 refine Xk hP AO Zof Zkl BD.nil λ_ q=>?_;have F:(V.d y.enc).BM=some [.d (Xg y.Al),.d (.AF 5 (y.Au.map At.enc)),.d (.AF 6 (y.AD.map AI.enc)),.d (.AF 5 (y.AK.map Ai.enc)),.d (.AF 5 (y.AQ.map Ag.enc)),.d (.AF 3 (y.AN.map AR.enc))]:=rfl;simp[Zhp,F];have X:(Xg y.Al).shape.size=1:=rfl;refine⟨⟨rfl,rfl⟩,X9j hP t.Al ?_⟩;simp[F,X,DZ,Bt,Zf];refine Xz2 hP t.Au ?_;simp[F,X,DZ,Bt,Zf];refine Xpl hP t.AD ?_;simp[F,X,DZ,Bt,Zf];refine Xlw hP t.AN ?_;simp[F,X,DZ,Bt,Zf];have aa:∀k,k<y.AD.length->(D0 y.AD k)=(y.AD.map λs=>s.AL.map Ad.name)[k]!:=λk g=>by simp[D0,g]
 let tw:=λk=>(!decide y.Al.Nodup||!decide (y.Au.map At.name).Nodup||!decide (y.AD.map AI.name).Nodup||!decide (y.AN.map AR.name).Nodup)||(y.AD.take k).any λx=>!decide (x.AL.map Ad.name).Nodup
 refine qO (ι:=Nat) (λk=>[(1,.ptr 3 []),(2,.ptr 4 []),(3,.d (.bool (tw k))),(61,.d (.AF 6 (y.AD.map AI.enc))),(62,.d (.int .i64 y.AD.length)),(63,.d (.int .i64 k))])
  (λk=>Y8 y k o2 o1 o0) (λk=>k<=y.AD.length) (λk=>y.AD.length-k) 0 (DM _) (by simp[tw]) (by simp[Y8,Wp,Ep,V5,HJ,Um]) ?_
 intro k g R W U rr rp;by_cases e:k<y.AD.length
 ·have wr:IntKind.i64.wrap ((k:Int)+1)=(k:Int)+1:=IntWalk.i64_in _ (by omega);have hx:=t.AP _ (CS e);have xk:(V.d y.AD[k].enc).BM=some [.d (.AM y.AD[k].name),.d (.AM y.AD[k].FJ),.d (iD y.AD[k].Bz),.d (iD y.AD[k].BT),.d (.AF 11 (y.AD[k].AL.map Ad.enc)),.d (.AF 4 (y.AD[k].Aj.map Ax.enc))]:=rfl;have xz:∀x:AI,x.enc.sz=6:=λ_=>rfl;have xs:∀x:AI,x.enc.shape.size=6:=λx=>by rw[CC];rfl
  have xh:∀x:AI,x.enc.shape=.node [.AX,.AX,.AX,.AX,.AX,.AX]:=λ_=>rfl;have O:=lz (y:=y) (k:=k) (o2:=o2) (o1:=o1) (o0:=o0);have f:=T3 (y:=y) (k:=k) (o2:=o2) (o1:=o1) (o0:=o0);have fr:fresh ((fresh (Y8 y k o2 o1 o0),Ob.box 54 (.d y.AD[k].enc))::Y8 y k o2 o1 o0)=fresh (Y8 y k o2 o1 o0)+1:=by simp
  simp[Xzo,e,xz,xh,xs,xk];refine⟨rfl,Xwu hP hx.AL ?_⟩;have G:∀{b:Bool},tw (k+1)=(tw k||!decide (y.AD[k].AL.map Ad.name).Nodup):=by
   intro b;simp only[tw,Ca e,List.any_append];simp[Bool.or_assoc]
  by_cases c:k=0
  ·subst c;have w1:IntKind.i64.wrap 1=1:=IntWalk.i64_in _ (by omega);simp[Y8,Wp,Ep,V5,HJ,I.wp,M5,Hp,Mf,Um];refine⟨_,_,⟨rfl,rfl⟩,rfl,rfl,?_⟩;simp[DZ,Bt,w1];have H:tw 1=(tw 0||!decide (y.AD[0].AL.map Ad.name).Nodup):=G (b:=true);have ea:∀v w m b,[(12,v),(11,w),(10,m),(9,b),(8,.map (Y3 (y.AN.map AR.name) y.AN.length)),(7,.map (Y3 (y.AD.map AI.name) y.AD.length)),(6,.map (Y3 (y.Au.map At.name) y.Au.length)),(5,.map (Y3 y.Al y.Al.length)),(4,.box 177 (V.agg [.mp 5,.mp 6,.mp 7,.sl 12 1])),(3,.box 29 (.d y.enc)),(2,o2),(1,o1),(0,o0)]
    = (12,v)::(11,w)::(10,m)::((9,b)::Wp y 1 o2 o1 o0):=λv w m b=>by simp[Wp,Um,HJ]
   have Y:Ob.map (Y3 (y.AD[0].AL.map Ad.name) y.AD[0].AL.length)=Um (D0 y.AD 0):=by simp[Um,D0,e]
   rw[ea,Y];refine W [10,12] 1 _ _ _ (ZJ (.cons _ (.cons _ (List.perm_append_singleton _ _).symm))) (by omega) (by omega) (by simp[H]) ?_ (by rw[f];simp[AE]) ?_
   ·rw[f];simp[Y8,Wp,Ep,V5,AE,Vj,Wi,Hb]
   ·rw[f];refine Qt ?_ (by simp[AE]) (by simp[AE]) (by simp[AE]) (λ_=>by simp[AE]) (λi Q=>?_)
    ·exact X8 (ob:=[(2,o2),(1,o1),(0,o0)]) q (by simp)
    ·obtain rfl:i=0:=by omega
     simp[AE,Vj]
  ·have M:=aH (y:=y) (o2:=o2) (o1:=o1) (o0:=o0) c;rw[Af c]at f;have L:∀n,n<=12->(fresh (Y8 y k o2 o1 o0)=n)=False:=λn hn=>by rw[f];exact eq_false (by omega)
   simp[O,M,HJ,c,I.wp,M5,Hp,Mf,L];refine⟨_,_,⟨rfl,rfl⟩,rfl,rfl,?_⟩;simp[O,M,L,DZ,Bt,Wm];refine⟨by omega,?_⟩;have Y:Ob.map (Y3 (y.AD[k].AL.map Ad.name) y.AD[k].AL.length)=Um (D0 y.AD k):=by simp[Um,D0,e]
   have ek:fresh (Y8 y k o2 o1 o0)+1=Vj k:=by rw[f];unfold Vj;rw[Af c];omega
   rw[Y,ek,Ykh c];have pm:∀(x z:Nat×Ob)(A B T:AB),(x::z::(A++(B++T))).Perm (z::(A++(B++x::T))):=λx z A B T=>by
    have:=(List.perm_middle (a:=x) (l₁:=z::(A++B)) (l₂:=T)).symm;simpa using this
   refine W [Vj k] (k+1) _ _ _ (ZJ (.cons _ (pm _ _ _ _ _))) (by omega) (by omega) (by simp[G (b:=true),wr]) ?_ (by rw[f];simp[AE];omega) ?_
   ·rw[f];have:=Ych (y:=y) (k:=k+1) (o2:=o2) (o1:=o1) (o0:=o0) (n:=11+2*k) (l:=[Vj k]) (by omega) (by omega) (λi Q h1=>by
     have:i=k:=by
      rcases FP i k with Z|Z
      ·exfalso;unfold Vj at h1;split at h1<;>omega
      ·omega
     simp[this])
    unfold Y8 at this;rw[V5]at this;have k1:AE (11+2*k) [Vj k] (Vj k+1)=true:=by simp[AE,Vj,c];omega
    have k2:AE (11+2*k) [Vj k] (11+2*k)=true:=by simp[AE,Vj,c]
    rw[Xh,BL k1,Xh,BL k2,this];unfold Y8;rw[V5]
   ·rw[f];refine Qt (X8 (ob:=[(2,o2),(1,o1),(0,o0)]) q (by simp;omega)) (by simp[AE];omega) (by simp[AE];omega) (by simp[AE];omega) (λ_=>by simp[AE];omega) (λi Q=>?_);rcases FP i k with Z|Z
    ·have:Vj i<11+2*k:=by unfold Vj;split<;>omega
     simp[AE];omega
    ·obtain rfl:i=k:=by omega
     simp[AE]
 ·obtain rfl:k=y.AD.length:=by omega
  simp[Xzo];refine U _ _ _ ?_;have g3:=Y2l (y:=y) (k:=y.AD.length) (o2:=o2) (o1:=o1) (o0:=o0);have O:=lz (y:=y) (k:=y.AD.length) (o2:=o2) (o1:=o1) (o0:=o0);have p:∀kp,AH (AE 3 kp) [(2,o2),(1,o1),(0,o0)]=true:=by simpa using q
  simp[g3,F];refine⟨rfl,?_⟩;let u:=λk=>tw y.AD.length||(y.AK.take k).any λr=>!decide (r.AW.map Am.name).Nodup
  have h9:9<=fresh (Y8 y y.AD.length o2 o1 o0):=by rw[T3];split<;>omega
  refine Ae.upto y.AK.length (λk=>[(2,.ptr 4 []),(3,.d (.bool (u k))),(89,.d (.AF 5 (y.AK.map Ai.enc))),(90,.d (.int .i64 y.AK.length)),(91,.d (.int .i64 k))])
   (λ_=>Y8 y y.AD.length o2 o1 o0) (λ_=>True) trivial (by simp[u]) rfl ?_ ?_
  ·intro k g _ R W U rr rp;have wr:IntKind.i64.wrap ((k:Int)+1)=(k:Int)+1:=IntWalk.i64_in _ (by have:=t.AK;omega);have hx:=t.FN _ (CS g);have xk:(V.d y.AK[k].enc).BM=some [.d (.AM y.AK[k].head),.d (iD y.AK[k].AP),.d (.AF 8 (y.AK[k].AW.map Am.enc)),.d (.AF 11 (y.AK[k].Ak.map BB.enc)),.d (.AF 7 (y.AK[k].BK.map Ba.enc))]:=rfl;have xz:∀x:Ai,x.enc.sz=5:=λ_=>rfl;have xs:∀x:Ai,x.enc.shape.size=5:=λx=>by rw[CC];rfl
   have xh:∀x:Ai,x.enc.shape=.node [.AX,.AX,.AX,.AX,.AX]:=λ_=>rfl;have J:u (k+1)=(u k||!decide (y.AK[k].AW.map Am.name).Nodup):=by
    simp only[u,Ca g,List.any_append];simp[Bool.or_assoc]
   simp[Xzn,g,xz,xh,xs,xk];refine⟨rfl,Xz1 hP hx.AW ?_⟩;simp;refine W [] _ _ trivial (by simp[J,wr]) ?_ ?_ (X28 p (BV _))
   ·simp[AE]
   ·simp[AE];omega
  ·intro _ R U rr rp;simp[Xzn];refine U _ _ _ ?_;have ht:u y.AK.length=PI y:=by
    simp[u,tw,PI,List.all_eq_not_any_not]
   simp;rw[ht];refine⟨W4 (Y8 y y.AD.length o2 o1 o0),?_,?_,?_⟩
   ·have:=Ze O;simp[AE,this]
   ·rw[Yg λ_ h=>h];have N:∀{j:Nat}{o:Ob},AA (Y8 y y.AD.length o2 o1 o0) j=some o->AE 3 (W4 (Y8 y y.AD.length o2 o1 o0)) j=false:=λh=>by simp[AE,Ze h]
    exact Qt (p _) (N Ytu) (N Ytv) (N Ytw) (λg=>N (aH g)) (λi Q=>N (rV Q))
   ·rw[Yg λ_ h=>h];exact h
end
def Yf8:Nat:=0x1c3102229c0722550233e9
def Yf9:Nat:=0x10700097148f802108302047c01504108f04101906700301d06e01f21c06e01a06a01c47c0ab01a0b509a0438760170be0160b50a640243e0043250864027400f037bbfc131053b41041c6801267660501127b06705860501006e01206a2af05b00b06e00d06a2af99504111b605c9505c60500627244700e0762af05b78f1076058880750082ae27250f381af60ba7ed45400567600158b15000105b74610700105b0020410750012ae04605b451a3412f22f12d0460fb0910f609e01931a7cf7ee06c00c0f238d2150450890083ec71015505612a0c802a005121b6708b0290050f304611208b0c902b00509a0438027f6728
def dC:Nat:=0x146bbfc06802801502702b4ab54627002604c026bfc13114322f04c0060257080aa3aa1310230b302205d038066021a2783d04301f54d0c601f0e94b201c0c601ba65295a0d230c3113f01a0560190c80151d974d01708b0140c08020890427f00aa0ef47902f0120e16030100c600f0e98604d40aa85200e0d7a610ce04300d11e08924c04700bab218b8b64c808d047c51
def pa:Nat:=0x16d6714071c31afe04d22607a
def jg:S:=zS [(zS [(zS [] Yf9),(zS [] Yf8)] dC)] pa
theorem Zog:Xr Tryz.prog 89 2 jg []=true:=by kernel_rfl
def Yga:Nat:=0x1000a3208d04f032181628045039756a32055cb82ac03f03802d1cac9119e8554fc055cb873f1ca85547304303e03803008dc913eb96f03a16f0a4cb873f1ca8554fc08d96f03a0a10c40b7093c913eb00ba5b03b0760750370be0580360b5048ba0009036abf12c00051d44200904800903427b84008a62802f39907a3080321ae1e9a320099200310ed0331b0
def dD:Nat:=0x11b191886902118102036902091800804f59fa3e04f05404e2e400753104f2de00616100504f0c60042e4009045089abd1e254679558f36579558f09702f0c502e08a02d56002c6f71f904902006a26d3df03002b08302a0be0296f7aad06f1b106a26d3df028ab902742f0c58fc02508a0248a23cb075aed5c70207040083df60210c8657800211ae0217253df8f80200ed0221b0
def Ygb:Nat:=0x100097301242f81c34a3e9
def dE:Nat:=0x120e97300f9f408301047cb4000e29c16f00d06e00f06a00906e00b06a0c108b00b6d400c07600808880d0b50400a4084b9a0470c504703858e04813105376912f0556d127b05803715d15003709c0411453f14510753f10070433f112d2400fb0e1148046155042032082a1809558e53005c04bb670c8b17bef9c258eaa40f32261120c60c99cc5897fa0c8028075029510095143006aa40270b302518bc06aa4c8a
def pb:Nat:=0x1abb9181fe1b191809701e0c501d08a01c8a20ab5a472e01804101a0830198a20130b501708803a85f01608a0158a20140417ff01407686b9730ae973c347d90c80205a405a17901d01f05601e0c80180054c40395754cc04601a0c80197ff08904217901501742b0911740140102de488a730111b70c60110755b955929b0a200d73ab9a045
def jh:S:=zS [(zS [(zS [] Ygb)] dE),(zS [(zS [] Yga)] dD)] pb
theorem Zoh:Xr Tryz.prog 90 3 jh []=true:=by kernel_rfl
def Ygc:Nat:=0x100094e024a0918103e36994e02223376c00c8b2091849ba121925501e1618fb0c87911b533301c23c0090d041426d609cb73fd01a51301818616105804e04f0c833904f0751866d02d56d0c0c2de017cb73fd01a5130181862c700503924a052c0c33d01903902b017cb704f219347c0c33d01903902b017186161a5904f0c833904f0751866d02d5809016161016001a9a0424be04f0133fd0165131ea0121613f988c0c81d70102e401018604630a00e1610c200d34904f0e212c00c1610fa869c352e400a1860461ca00816108dc6608b9902e43f50430072d507500901523c21323423c04d98b04941426d609a7800a01e996bdd03f1ae03f0384140df15651503e0ed2b1080
def Ygd:Nat:=0x100093692001c1810ab1a293602e08802727b02d25704e4d102b1838fc02a08a0290cc0284a73330890d040703816615602508801e27b024a9ba4b1838fc02108a0200cc01f4a7333bf04fa40703816615670610c0ab78001c1ae2254070df1563a80ab00d01d1b0
def Yge:Nat:=0x10008cb00d42f81c4027738cb0c116b04148400aacb00427206a44b0760095600086d4bc7007a31086268c8516604105227b0040cc0036d4802095c8500882e99b0beaf412d12a2de8d1ae50e5091b1751603001f1480c687b00703433a02f73a71708618a1b67e2c850081122260c97e95897fa0910281b5b795c71430eb6b80270b302518bc060c06b8c8a
def pd:Nat:=0x121494e36594e09703c0c503b08a03a47c0394a704633e2cb03604103808303747c0310b5b1903e85f03408a03347c0324a71a69e306abd208906400a9365ae9360970190c5b390170cc0164a753305a2cb0136c10830140cc00e0b5012a2b57554983a0cc00f4a71a66fc06abd22c805f8cb0ae8cbc347d90910201b5932006b891a401f0d71a407003c039017020acf0610bb88a9ca0366d302e34a01d07a86801b36001c09101600542003b85f0190460180910171b51a642c01fbd22c86f204993d00c056c3501502300a186c696d06db2de25593d00c056c350052786db33d01402b009186c6980960308d01004209300f00505c0030460754b904d00ca7d00b14d51642e07b00d0526f204803b03913b027039243
def ji:S:=zS [(zS [] Yge),(zS [] Ygd),(zS [] Ygc)] pd
theorem Zoi:Xr Tryz.prog 91 2 ji []=true:=by kernel_rfl
def Ygg:Nat:=0x10008a40024ec0720131a28a482e99b0cc02800512d12a2de8d1ae50e50c90e212104303101f02b04302d01f1480c687b00503401e0f309102d082b0701e02a08b02918409e15e7327b80045115c634a04015e26e0250270560260917ca0240202dea960257d79320220420210e902201e05d04e01d18400501d73ab9a7e215e26e01b0d715f36e3340460170c601607501789b15e04d44f08f01318b0140810d16fd01300d015080
def ph:Nat:=0x105f8a40ae8a409798e010046b495c31f911100b00d05600c0c606327800003a0273e404608d80d7ff0b3159
def jk:S:=zS [(zS [] Ygg)] ph
theorem Zoj:Xr Tryz.prog 93 2 jk []=true:=by kernel_rfl
def Zfd:Nat:=0x1270121b6708b0190050f302a2de112043a2502904602801d0e2a3002609102502135302404302654d04601f09101e1b504680101b08b01a0b904301b01f0c90c602b09ea2402309102209e9d904015f31a015adc38d0d10f210f0500f801674d0170910100050150112de01456e0eaae084401209e01301e0409493ec2981bd04563108604729f00e0cd4b9b5400b1840d204427405776d00908b3ec04b00883209100523f0d7188
def nL:S:=zS [] Zfd
theorem Zaa:Xr Tryz.prog 180 4 nL []=true:=by kernel_rfl
def iR:S2:=zL [] [] Yf8
def gH:=(by cbv:iR=_)
def iS:S2:=zL [] [] Yf9
def Yhr:=(by cbv:iS=_)
def iQ:S2:=zL [] [iS,iR] dC
def gG:=(show iQ=_ from (λ(a b:S2)=>(by cbv:zL [] [a,b] dC=_)) iS iR)
def Zen:S2:=zL [] [iQ] pa
def Zhq:=(show Zen=_ from (λ(a:S2)=>(by cbv:zL [] [a] pa=_)) iQ)
theorem Zkm:jg.AZ []=some Zen:=by kernel_rfl
def iT:S2:=zL [] [] Yga
def gI:=(by cbv:iT=_)
def iU:S2:=zL [] [iT] dD
def Xzp:=(show iU=_ from (λ(a:S2)=>(by cbv:zL [] [a] dD=_)) iT)
def iW:S2:=zL [] [] Ygb
def Xzr:=(by cbv:iW=_)
def iV:S2:=zL [] [iW] dE
def Xzq:=(show iV=_ from (λ(a:S2)=>(by cbv:zL [] [a] dE=_)) iW)
def Zeo:S2:=zL [] [iV,iU] pb
def Zhr:=(show Zeo=_ from (λ(a b:S2)=>(by cbv:zL [] [a,b] pb=_)) iV iU)
theorem Zkn:jh.AZ []=some Zeo:=by kernel_rfl
def iX:S2:=zL [] [] Ygc
def Xzs:=(by cbv:iX=_)
def iY:S2:=zL [] [] Ygd
def Xzt:=(by cbv:iY=_)
def iZ:S2:=zL [] [] Yge
def Xzu:=(by cbv:iZ=_)
def Zep:S2:=zL [] [iZ,iY,iX] pd
def Zhs:=(show Zep=_ from (λ(a b c:S2)=>(by cbv:zL [] [a,b,c] pd=_)) iZ iY iX)
theorem Zko:ji.AZ []=some Zep:=by kernel_rfl
def ia:S2:=zL [] [] Ygg
def Xzv:=(by cbv:ia=_)
def Zeq:S2:=zL [] [ia] ph
def Zhu:=(show Zeq=_ from (λ(a:S2)=>(by cbv:zL [] [a] ph=_)) ia)
theorem Zkq:jk.AZ []=some Zeq:=by kernel_rfl
def Yv7:S2:=zL [] [] Zfd
def Y1g:=(by cbv:Yv7=_)
theorem Y7c:nL.AZ []=some Yv7:=by kernel_rfl
theorem Wn:∀{a:AB}{k:Nat}{o:Ob},AA a k=some o->AG a k o=a
|(j,b)::r,k,o,h=>by
 simp only[AA]at h;simp only[AG];split
 ·rename_i e;simp[e]at h;subst h;rfl
 ·rename_i e;rw[Wn (by simpa[e]using h)]
theorem Xf {a:AB}{k:Nat}{o:Ob}(h:AA a k=some o):k<fresh a:=by
 rcases FP k (fresh a) with b|b
 ·exact b
 ·rw[Xu a k b]at h;cases h
@[simp] theorem ex3 (a b n:Nat)(c:List D):(∃E z d,(a=E/\b=z/\c=d)/\n=d.length)=(n=c.length):=by
 rw[eq_iff_iff];exact⟨λ⟨_,_,_,⟨_,_,e⟩,f⟩=>e▸f,λh=>⟨_,_,_,⟨rfl,rfl,rfl⟩,h⟩⟩
@[simp] theorem add11 (n:Nat):n+1+1=n+2:=rfl
@[simp] theorem add21 (n:Nat):n+2+1=n+3:=rfl
@[simp] theorem add31 (n:Nat):n+3+1=n+4:=rfl
@[simp] theorem add41 (n:Nat):n+4+1=n+5:=rfl
@[simp] theorem add51 (n:Nat):n+5+1=n+6:=rfl
@[simp] theorem add61 (n:Nat):n+6+1=n+7:=rfl
@[simp] theorem add71 (n:Nat):n+7+1=n+8:=rfl
@[simp] theorem add12 (n:Nat):n+1+2=n+3:=rfl
@[simp] theorem add22 (n:Nat):n+2+2=n+4:=rfl
@[simp] theorem strsD_shape (l:List B):(Xg l).shape=.AX:=by simp[Xg,D.shape]
@[simp] theorem strsD_agg (l:List B):(Xg l).isAgg=false:=rfl
@[simp] theorem Rc1 (t:BG):t.enc.shape=.node [.AX,.AX,.AX,.AX,.AX]:=rfl
@[simp] theorem Rc2 (t:BG):t.enc.isAgg=true:=rfl
theorem Zd {b:Type}(f:List b->b->Option b)(a:List b)(x:b)(r:List b):DB f a (x::r)=(f a x).bind λy=>DB f (a++[y]) r:=rfl
theorem Jp {a:Type}(f:a->V){d l:List a}(b:d.length<l.length)(h:d.length<((d++l.drop d.length).map f).length):((d++l.drop d.length).map f)[d.length]=f l[d.length]:=by
 rw[List.getElem_map,List.getElem_append_right (BV _)];simp
theorem Jq {b:Type}(f:b->V){d l:List b}(a:d.length<l.length)(z:b):((d++l.drop d.length).map f).set d.length (f z)=((d++[z])++l.drop (d++[z]).length).map f:=by
 rw[<-Fg,List.set_append_right _ _ (BV _),Db a,Nat.sub_self,List.set_cons_zero];simp
def EN (u:At):V:=.d u.enc
theorem Xn {p:Nat->Bool}{id E z:Nat}{e:List V}(b:BO p e=false):∀{d:AB},AH p d=true->AH p (AG d id (.Ao E z e))=true
|[],_=>rfl
|(j,o)::r,h=>by
 have a:AH p r=true:=by cases o<;>simp[AH]at h<;>first|exact h|exact h.2
 simp only[AG];split
 ·simp[AH,b,a]
 ·have c:=Xn (id:=id) (E:=E) (z:=z) b a;cases o<;>simp[AH]at h⊢<;>first|exact c|exact⟨h.1,c⟩
theorem Xw {a:Type}{p:Nat->Bool}(f:a->D)(l:List a):BO p (l.map λx=>V.d (f x))=false:=by
 induction l with
 |nil=>rfl
 |cons x r b=>simpa[BO,V.BJ]using b
section
variable {P:Az} (hP:P.p=Tryz.prog)
include hP
theorem Yhz {n id:Nat}{names:List B}{l:List At}(hl:l.length<=1000000){b:AB}(W:AA b 4=some (TZ n))(h6:AA b 6=some (Um names))(j:AA b id=some (.Ao 88 5 (l.map EN))){K:A7->AB->Prop}
 (U:∀us,DB (Lo names) [] l=some us->K (.ret (.BE [])) (AG b id (.Ao 88 5 (us.map EN))))
 (h0:DB (Lo names) [] l=none->∀J:List At,K (.panic (.d Y5)) (AG b id (.Ao 88 5 (J.map EN)))):
 AV P 89 [.ptr 4 [],.sl id l.length] b K:=by
 refine Aq hP AO Zog Zkm BD.nil λ_ L=>?_;have G:=Xf W;have H:=Xf j;have n4:id≠4:=λe=>by rw[e,W]at j;simp at j
 have n6:id≠6:=λe=>by rw[e,h6]at j;simp[Um]at j
 simp[Zhq];refine⟨.inr ⟨_,_,_,j,by simp⟩,?_⟩;refine Ae.go (ι:=List At) (λd=>[(0,.ptr 4 []),(1,.sl id l.length),(8,.d (.int .i64 l.length)),(9,.d (.int .i64 d.length))])
  (λd=>AG b id (.Ao 88 5 ((d++l.drop d.length).map EN))) (λd=>d.length<=l.length/\DB (Lo names) [] l=DB (Lo names) d (l.drop d.length)/\∀u∈d,0<=u.BP/\u.BP<=1099511627776) (λd=>l.length-d.length) [] ⟨by simp,rfl,by simp⟩ (by simp) (by simp[Wn j]) ?_
 rintro d ⟨hd,h,q⟩ R rn re rr rp;have o4:∀o,AA (AG b id o) 4=some (TZ n):=λo=>by rw[Xc b id 4 ⟨_,j⟩,Af (by omega),W]
 have o6:∀o,AA (AG b id o) 6=some (Um names):=λo=>by rw[Xc b id 6 ⟨_,j⟩,Af (by omega),h6]
 have oi:∀o,AA (AG b id o) id=some o:=λo=>by rw[Xc b id id ⟨_,j⟩,BL rfl]
 have M:((d++l.drop d.length).map EN).length=l.length:=by simp;omega
 by_cases a:d.length<l.length
 ·have wr:IntKind.i64.wrap ((d.length:Int)+1)=(d.length:Int)+1:=IntWalk.i64_in _ (by omega);have w:=Jp EN a;have J:=Jq EN a;rw[Db a,Zd]at h;generalize hu:l[d.length]=u at h w;have ue:EN u=.d (.agg [.AM u.name,.AM u.CF,iD u.BQ,iD u.base,iD u.BP]):=rfl;simp only[ue]at w;generalize r:(d++l.drop d.length).map EN=p at M w J;have ac:d.length<p.length:=by omega
  by_cases f:u.CF=[]
  ·have e2:(p.set d.length (.d (.agg [.AM u.name,.AM u.CF,iD u.BQ,iD d.length,iD 1])))=((d++[{u with base:=d.length,BP:=1}])++l.drop (d++[{u with base:=d.length,BP:=1}]).length).map EN:=J {u with base:=d.length,BP:=1};simp[gG,a,oi,w,M,f];simp[gH];have N:p.set d.length (.d (.agg [.AM u.name,.AM [],iD u.BQ,iD d.length,iD 1]))=((d++[{u with base:=d.length,BP:=1}])++l.drop (d++[{u with base:=d.length,BP:=1}]).length).map EN:=by rw[<-e2,f]
   have uR:Lo names d u=some {u with base:=d.length,BP:=1}:=by unfold Lo;rw[BL f]
   rw[uR]at h;refine rn [] (d++[{u with base:=d.length,BP:=1}]) _ _ ⟨by simp;omega,?_,?_⟩ (by simp;omega) (by simp[wr]) ?_ (by simp[AE,G,H]) ?_
   ·rw[h,Option.bind_some,DV];rfl
   ·intro x m;rw[DF,DW]at m;rcases m with m|rfl
    ·exact q x m
    ·simp
   ·rw[<-N];simp[AE,iD]
   ·exact Xn (Xw _ _) (X8 L (by simp))
  ·have un:Lo names d u=(CU names u.CF).bind λn=>(d[n]?).map λv=>{u with base:=v.base,BP:=if 2<=u.BQ/\u.BQ<=1000/\u.BQ*v.BP<=1099511627776 then u.BQ*v.BP else 0}:=by unfold Lo;rw[Af f]
   simp[gG,a,oi,o4,w,M,f];have pn:((CU names u.CF).bind λn=>(d[n]?).map λv=>{u with base:=v.base,BP:=if 2<=u.BQ/\u.BQ<=1000/\u.BQ*v.BP<=1099511627776 then u.BQ*v.BP else 0})=none->R (.panic (.d Y5)) [] (AG b id (.Ao 88 5 p)):=λe=>by
    refine rp _ _ _ ?_;simp;rw[un,e]at h;refine⟨[],by simp,?_,?_⟩
    ·simp[AE];rw[<-r];exact Xn (Xw _ _) (L _)
    ·simp[AE];rw[<-r];exact h0 h _
   refine Yy hP (o6 _) (λi F=>?_) (λhn=>?_)
   ·simp;refine⟨λc=>pn (by rw[F,Option.bind_some,O2 c];rfl),λc=>?_⟩;have t:p[i]'(by omega)=EN d[i]:=by
     subst r;rw[List.getElem_map,List.getElem_append_left c]
    have ve:EN d[i]=.d (.agg [.AM d[i].name,.AM d[i].CF,iD d[i].BQ,iD d[i].base,iD d[i].BP]):=rfl;rw[ve]at t;have g:=q d[i] (CS c);have ab:i<p.length:=by omega
    have Y:i<l.length:=by omega
    have Z:d.length≠i:=by omega
    generalize X:d[i]=v at t g ve;simp[Yhr,oi,w,M,t,a,Y,Z];have Cm:∀k:Int,0<=k->k<=1099511627776->(if 2<=u.BQ/\u.BQ<=1000/\u.BQ*d[i].BP<=1099511627776 then u.BQ*d[i].BP else 0)=k->∀s,Xj s [0,1,8,9]=[(0,.ptr 4 []),(1,.sl id l.length),(8,.d (.int .i64 l.length)),(9,.d (.int .i64 (d.length+1:Nat)))]->
     R .normal s (AG b id (.Ao 88 5 (p.set d.length (.d (.agg [.AM u.name,.AM u.CF,iD u.BQ,iD d[i].base,iD k]))))):=λk s1 s2 he s hk=>by
     have N:p.set d.length (.d (.agg [.AM u.name,.AM u.CF,iD u.BQ,iD d[i].base,iD k]))=((d++[{u with base:=d[i].base,BP:=k}])++l.drop (d++[{u with base:=d[i].base,BP:=k}]).length).map EN:=J {u with base:=d[i].base,BP:=k};rw[un,F,Option.bind_some,Cn c,Option.map_some,he]at h;refine rn [] (d++[{u with base:=d[i].base,BP:=k}]) _ _ ⟨by simp;omega,?_,?_⟩ (by simp;omega) (by simpa using hk) ?_ (by simp[AE,G,H]) ?_
     ·rw[h,Option.bind_some,DV];rfl
     ·intro x m;rw[DF,DW]at m;rcases m with m|rfl
      ·exact q x m
      ·exact⟨s1,s2⟩
     ·rw[<-N];simp[AE]
     ·exact Xn (Xw _ _) (X8 L (by simp))
    rw[X]at Cm;refine⟨λO f2 T=>?_,λO=>?_⟩
    ·have hb:0<=u.BQ*v.BP/\u.BQ*v.BP<=1099511627776000:=⟨Int.mul_nonneg (by omega) g.1,by
      have U:u.BQ*v.BP<=1000*v.BP:=Int.mul_le_mul_of_nonneg_right f2 g.1;omega⟩
     have wm:IntKind.i64.wrap (u.BQ*v.BP)=u.BQ*v.BP:=IntWalk.i64_in _ (by omega);rw[wm]at T⊢;simp[gH];exact Cm _ hb.1 T (BL ⟨O,f2,T⟩) _ (by simp[wr])
    ·simp[gH];refine Cm 0 (by omega) (by omega) (Af λ⟨Q,y,aa⟩=>?_) _ (by simp[wr]);have hb:0<=u.BQ*v.BP/\u.BQ*v.BP<=1099511627776000:=⟨Int.mul_nonneg (by omega) g.1,by
      have U:u.BQ*v.BP<=1000*v.BP:=Int.mul_le_mul_of_nonneg_right y g.1;omega⟩
     have wm:IntKind.i64.wrap (u.BQ*v.BP)=u.BQ*v.BP:=IntWalk.i64_in _ (by omega);have:=O Q y;rw[wm]at this;omega
   ·simp;exact pn (by rw[hn];rfl)
 ·have z:d.length=l.length:=by omega
  simp[gG,a];refine re _ _ _ ?_;simp;rw[z,List.drop_length,DB]at h;have e:List.drop l.length (List.map EN l)=[]:=Gj (by simp);rw[z,e,GL];refine⟨[],by simp,?_,?_⟩
  ·simp[AE];exact Xn (Xw _ _) (L _)
  ·simpa[AE]using U d h
end
def H8:Xb->List Nat->List V->Xb
|sl,p::a,v::b=>H8 ((p,v)::sl) a b
|sl,_,_=>sl
def MH (id n:Nat)(d:EC)(c:AB)(K:AB->Prop):Option Ob->Prop
|some (.lp b _ a)=>X0 n K [] (AG c id (.lp b d a))
|_=>False
def TY (id n:Nat)(K:A7->AB->Prop):Yt
|.normal,_,a=>MH id n .ready a (K (.ret (.d (.bool true)))) (AA a id)
|.ret,_,a=>MH id n .ret a (K (.ret (.d (.bool false)))) (AA a id)
|.exit m,_,a=>MH id n (.exit m) a (K (.ret (.d (.bool false)))) (AA a id)
|.panic _,_,_=>False
def YZ (P:Az)(y:S)(id n:Nat)(K:A7->AB->Prop)(d:Xb)(c:AB):Option Ob->Prop
|some (.lp b .ready a)=>Co P y (TY id n K) d (AG c id (.lp b .busy a))
|_=>False
def YY (P:Az)(y:S)(id n:Nat)(K:A7->AB->Prop):Yt
|.normal,b,a=>YZ P y id n K b a (AA a id)
|_,_,_=>False
section
variable {w:World} {ρ:A0}
theorem X36 {sl:Xb}{t:Array Value}(h:∀p∈sl,p.2.An w ρ (t.getD p.1 undef))(k:Nat):(Ay sl k).An w ρ (t.getD k undef):=by
 rcases Yc1 (sl:=sl) (k:=k) with e|e
 ·rw[e];exact Qy
 ·exact h _ e
theorem wC:∀(a:List Nat)(b:List V)(g:List Value)(f:Xb)(t:Array Value),V.A1 w ρ b g->b.length=a.length->(∀p∈a,p<t.size)->(∀k,(Ay f k).An w ρ (t.getD k undef))->
 ∀k,(Ay (H8 f a b) k).An w ρ (((a.zip g).foldl (λ(t:Array Value) (x:Nat×Value)=>t.setIfInBounds x.1 x.2) t).getD k undef)
|[],b,g,f,t,c,d,_,h,k=>by
 cases b with
 |nil=>simp only[V.A1]at c;subst c;exact h k
 |cons v r=>simp at d
|p::a,[],g,f,t,c,d,_,h,k=>by simp at d
|p::a,v::b,g,f,t,c,d,n,h,k=>by
 simp only[V.A1]at c;obtain⟨u,m,rfl,o,s⟩:=c;simp only[H8,List.zip_cons_cons,List.foldl_cons];refine wC a b m _ _ s (by simpa using d) (λq y=>by simpa using n q (by simp[y])) (λj=>?_) k;have l:=n p (by simp);simp only[Ay];split
 ·rename_i e;subst e;have i:v.An w ρ u:=o;simpa[l]using i
 ·rename_i e;have:=h j;simpa[Tu,e]using this
theorem wK:∀(l:List (Nat×Value)) (t:Array Value),(l.foldl (λ(t:Array Value) (x:Nat×Value)=>t.setIfInBounds x.1 x.2) t).size=t.size
|[],_=>rfl
|x::r,t=>by simp only[List.foldl_cons];rw[wK r];simp
end
theorem CL.of {P:Az}(hm:P.p.follows .mixedOrders=true){id al:Nat}{ps:List Nat}{x y:S}{W:Xb}{ob:AB}{vs:List V}{K:A7->AB->Prop}(hL:V7 P al ps x y)(hl:AA ob id=some (.lp al .ready W))(aa:vs.length=ps.length)
 (h:Co P x (YY P y id (fresh ob) K) (H8 W ps vs) ob):CL P id vs ob K:=by
 refine⟨λw J G b hO hg hr hb=>?_⟩;obtain⟨b',fn,tm,dd,qs,ca,cb,g1,g2,g3,g4⟩:=hO.BU _ _ hl;rw[hb]at g1;cases g1;rw[hg]at g3;have hc:=(hL qs tm.size ca cb).1 g3;simp only[As,CT,DQ,Bs]at hc;obtain⟨⟨⟨⟨⟨ag,ay⟩,ao⟩,ap⟩,aw⟩,ax⟩:=hc;have an:G.length=ps.length:=by rw[<-aa];exact Yr hr
 let M:Array Value:=(qs.zip G.toArray).foldl (λtmps (x:Nat×Value)=>tmps.setIfInBounds x.1 x.2) tm;have ai:M=(ps.zip G).foldl (λ(t:Array Value) (x:Nat×Value)=>t.setIfInBounds x.1 x.2) tm:=by
  simp only[M,<-Array.foldl_toList,Array.toList_zip,ag,List.toList_toArray]
 have ac:(Instr.getLoop b).run P.p w=.ok {state:=.ready,pending:=none,fn:=fn,tmps:=tm,params:=qs,assign:=ca,body:=cb,defers:=dd} w:=by
  simp[Instr.getLoop,getObj,Sem.run,g2,EC.st,EC.DS]
 refine⟨fn,M,ca,cb,?_,?_⟩
 ·have az:G.toArray.size=qs.size:=by
   have:=CK List.length ag;simp at this;simp[an,this]
  simp only[Instr.yield,Sem.run_bind,ac,Result.andThen_ok];rw[Af (by simp[az])];simp only[Sem.run_pure];rfl
 ·refine roundIn_of_wpIn (F:=Fence.wide) trivial ?_;let c:Di:=⟨w,Eg J,tm.size,[],P.g,J.m,[(.hd true id,.func (.yield b) #[] #[])],false⟩
  have m:C3 c J.xo J (H8 W ps vs) ob {tmps:=M,defers:=[] } w:=by
   refine⟨⟨BV _,λ_ _ _=>rfl,λb h=>.inr h,rfl,rfl,rfl,λid o h=>⟨o,h,.refl o⟩,λp hp=>?_,BV _⟩,hO,λk=>?_,?_,EZ.nil,rfl,hg⟩
   ·simp only[c,DW]at hp;subst hp;exact LR.2 (.inl ⟨b,hb,rfl⟩)
   ·show(Ay (H8 W ps vs) k).An w J (M.getD k undef);rw[ai];exact wC ps vs G W tm hr aa ay (X36 g4) k
   ·show M.size=tm.size;rw[ai,wK]
  have a0:∀kp i o,J.m i=some o->AE (fresh ob) kp i=false:=λkp i o h0=>by
   obtain⟨x,T⟩:=hO.D1 i o h0;have av:¬fresh ob<=i:=λau=>by rw[Xu _ _ au]at T;cases T
   simp[AE,av]
  -- the loop's s,wherever the round stands
  have s:∀{q:World}{a:A0}{z:Xb}{f:AB}{Y:Act}{tg:Nat}{st st':EC}{sk:Xb},C3 c J.xo a z f Y q->AA f id=some (.lp tg st sk)->
   ∃r:Loop,(Instr.getLoop b).run P.p q=.ok r q/\r.state=st.st/\(setObj b (.loop {r with state:=st'.st,pending:=st'.DS})).run P.p q=.ok () (EB q b (.loop {r with state:=st'.st,pending:=st'.DS}))/\r.pending=st.DS/\
    C3 c J.xo a z (AG f id (.lp tg st' sk)) Y (EB q b (.loop {r with state:=st'.st,pending:=st'.DS})):=by
   intro q a z f Y tg st st' sk l Z;obtain⟨b2,R,X,Q,U,N,O,k1,k2,k3,k4⟩:=l.om.BU _ _ Z;have T:=l.base.ext (.hd true id,.func (.yield b) #[] #[]) (by simp[c]);rw[LR]at T;rcases T with⟨b3,T,e⟩|⟨T,_⟩
   ·rw[k1]at T;cases T;simp only[KU,Value.func.injEq,Go.Fn.yield.injEq,GK]at e;subst e;refine⟨{state:=st.st,pending:=st.DS,fn:=R,tmps:=X,params:=U,assign:=N,body:=O,defers:=Q},by simp[Instr.getLoop,getObj,Sem.run,k2],rfl,Jf q k2 rfl,rfl,?_⟩;have ad:Qh (EB q b (.loop {state:=st'.st,pending:=st'.DS,fn:=R,tmps:=X,params:=U,assign:=N,body:=O,defers:=Q})) a id (.lp tg st' sk):=by
     refine⟨b,R,X,Q,U,N,O,k1,UA q _ (Xi k2),k3,λp hp=>?_⟩;have t1:Tr q a (EB q b (.loop {state:=st'.st,pending:=st'.DS,fn:=R,tmps:=X,params:=U,assign:=N,body:=O,defers:=Q})) a:=by
      refine⟨by rw[Vh];exact BV _,λj hj _=>Zp q _ (λe=>hj ?_),λ_ h=>.inl h,rfl,rfl,λ_ o h=>⟨o,h,.refl o⟩,rfl,rfl,rfl,BV _⟩;subst e;exact⟨id,_,k1,rfl⟩
     exact Gg t1 (k4 p hp)
    obtain⟨t1,o1⟩:=Xwp (o:=.loop {state:=st'.st,pending:=st'.DS,fn:=R,tmps:=X,params:=U,assign:=N,body:=O,defers:=Q}) l.om Z k1 (Xi k2) (x:=.lp tg st' sk) ad;exact⟨l.base.tr t1,o1,l.sm.tr t1,l.size,l.df.tr t1,t1.xo.trans l.xo,t1.gl.trans l.gl⟩
   ·rw[k1]at T;cases T
  have tr:∀{q:World}{a:A0}{z:Xb}{f:AB}{Y:Act},C3 c J.xo a z f Y q->∀kp,Tr w J q (a.CB (AE (fresh ob) kp)):=λ{q a z f Y} l kp=>by
   refine⟨l.base.size,λb h1 h2=>l.base.keep b h2 h1,λb h1=>(l.base.Cs b (Zv h1)).symm,?_,?_,λid o h1=>?_,l.base.tape,l.base.os,l.base.CO,l.base.drawn⟩
   ·show a.xo=J.xo;rw[l.xo]
   ·show a.gl=J.gl;rw[l.gl,hg]
   ·obtain⟨o',h3,h4⟩:=l.base.same id o h1;exact⟨o',by simp only[A0.CB,a0 kp id o h1];exact h3,h4⟩
  have Cm:∀{q:World}{a:A0}{z:Xb}{f:AB}{Y:Act}{st:EC}{H:Option Code}{v:Bool},C3 c J.xo a z f Y q->st.st=(if H.isNone then .ready else .done)->st.DS=H->H.isNone=v->MH id (fresh ob) st f (K (.ret (.d (.bool v)))) (AA f id)->
   ∃u w4,(Instr.endRound b H).run P.p q=.ok u w4/\∃ak aj ab,K ak aj/\Wv w4 ab (.returned u) ak/\OM w4 ab aj/\Tr w J w4 ab:=by
   intro q a z f Y st H v l ah af hv hk;unfold MH at hk;split at hk
   ·rename_i tg a9 sk Z;obtain⟨r,q1,_,q3,_,m2⟩:=s (st':=st) l Z;obtain⟨kp,_,k2,k3⟩:=hk;refine⟨.bool v,_,?_,_,_,_,k3,BI.2 rfl,m2.om.CB k2,tr m2 kp⟩;rw[ah,af]at q3;simp only[Instr.endRound,Sem.run_bind,q1,Result.andThen_ok,q3,Sem.run_pure];rw[ah,af,hv]
   ·cases hk
  refine wpIn_mono (Yc (rd:=some b) hm (c:=c) rfl ca x _ _ _ J _ w ao (.inl aw) h m) ?_;rintro e a1 w1 ⟨ae,a7,a5,a4,L,he,m1⟩;cases ae with
  |exit n=>cases L
  |ret=>cases L
  |panic v=>cases L
  |normal=>
   cases e<;>simp only[DY]at he;simp only[YY]at L;unfold YZ at L;split at L
   ·rename_i tg sk aq;obtain⟨r,q1,q2,q3,q4,m2⟩:=s (st':=.busy) m1 aq;refine⟨_,?_,wpIn_mono (Yc (rd:=some b) hm (c:=c) rfl cb y _ _ _ a4 a1 _ ap (.inl ax) L m2) ?_⟩
    ·simp only[Instr.beginRound,Sem.run_bind,q1,Result.andThen_ok];have a2:(setObj b (.loop {r with state:=.busy})).run P.p w1=.ok () (EB w1 b (.loop {r with state:=.busy,pending:=none})):=by
      have:(Loop.mk .busy r.pending r.fn r.tmps r.params r.assign r.body r.defers)=Loop.mk .busy none r.fn r.tmps r.params r.assign r.body r.defers:=by rw[q4];rfl
      show(setObj b (.loop (Loop.mk .busy r.pending r.fn r.tmps r.params r.assign r.body r.defers))).run P.p w1=_;rw[this];exact q3
     rw[a2,q2];simp[EC.st];rfl
    ·rintro e a3 w3 ⟨ae,a8,a6,ba,L,he,m3⟩;cases ae with
     |normal=>cases e<;>simp only[DY]at he;exact Cm (st:=.ready) m3 rfl rfl rfl L
     |ret=>cases e<;>simp only[DY]at he;exact Cm (st:=.ret) m3 rfl rfl rfl L
     |exit n=>cases e<;>simp only[DY]at he;subst he;exact Cm (st:=.exit _) m3 rfl rfl rfl L
     |panic v=>cases L
   ·cases L
def PA (n:Nat)(b:List RV)(K:A7->AB->Prop):Yt
|.panic _,_,_=>False
|e,c,a=>H9 n b K e c a
section
variable {n k:Nat} {sl:Xb} {ob:AB} {v:V}
@[simp] theorem callNR_r (b:List RV)(a:A7->AB->Prop):PA n b a .ret sl ob=Va sl ob b λc=>X0 n (a (.ret (W8 c))) c ob:=by simp only[PA,H9]
@[simp] theorem callNR_p (b:List RV)(a:A7->AB->Prop):PA n b a (.panic v) sl ob=False:=by simp only[PA]
end
section
theorem Xly {P:Az}(O:P.p.follows .mixedOrders=true){f:Nat}{s:S}{rs:List RV}{q:List V}{G:AB}{K:A7->AB->Prop}(J:Hh P.p f q.length s rs=true)
 (h:Co P s (PA (fresh G) rs K) (Uo 0 q) G):AV P f q G K:=by
 unfold Hh at J;split at J
 ·rename_i fn hf;split at J
  ·rename_i N hb;simp only[As,Bs]at J;obtain⟨⟨hn,y⟩,Z⟩:=J;refine⟨λw u j hO hg W=>callsIn_wide.1 (callsIn_of_wp_marks (n:=0) hf hb trivial ?_)⟩;let c:Di:=⟨w,Eg u,fn.ntmps,[],P.g,u.m,[],true⟩
   have ag:j.length=q.length:=by simpa using Yr W
   have m:C3 c u.xo u (Uo 0 q) G {tmps:=j.toArray++Array.replicate (fn.ntmps-j.toArray.size) undef,defers:=[] } w:=by
    refine⟨⟨BV _,λ_ _ _=>rfl,λb h=>.inr h,rfl,rfl,rfl,λid o h=>⟨o,h,.refl o⟩,(λp hp=>by cases hp),BV _⟩,hO,?_,?_,EZ.nil,rfl,hg⟩
    ·refine Up W 0 _ (λi hi=>?_);simp[LI,hi]
    ·simp[c];omega
   refine wpIn_mono (Yc (rd:=none) O rfl N s _ _ _ u _ w y (.inr ⟨rfl,rfl⟩) h m) ?_;rintro e Y L ⟨ae,af,k,d,M,he,a⟩;have ad:∀F id o,u.m id=some o->AE (fresh G) F id=false:=λF id o h0=>by
    obtain⟨x,hx⟩:=hO.D1 id o h0;have ac:¬fresh G<=id:=λab=>by rw[Xu _ _ ab]at hx;cases hx
    simp[AE,ac]
   have z:Va af k rs (λq=>X0 (fresh G) (K (.ret (W8 q))) q k)->LeavesInM Fence.wide 0 P.p fn Y.tmps (λe L=>∃U k d,K U k/\Wv L d e U/\OM L d k/\Tr w u L d) Y.defers .returning L:=by
    intro M;obtain⟨ms,q1,_,q3,q4⟩:=a.df;have q1:Y.defers=ms.map G0:=by rw[q1];simp[c]
    rw[q1];refine Vv ms L q3 (λr W=>(q4 r W).2.1) (λX sm hs=>?_);have aa:∀b o,d.gl b=some o->X.heap[b]? = L.heap[b]?:=λb o hb=>hs b (λO=>by
     have H:=(hO.Dn b o (by rw[hg,<-show d.gl=P.g from a.gl];exact hb)).1;have:=(q4 b O).1;have:=Xi H;show False;simp only[c]at *;omega)
    have T:=OM.same sm a.om aa;have tr:∀{l:A0},Tr X d X l->∀F,Tr w u X (l.CB (AE (fresh G) F)):=λ{l} t F=>by
     refine⟨by rw[sm.size];exact a.base.size,λb y Z=>(hs b (λO=>by have:=(q4 b O).1;simp only[c]at this;omega)).trans (a.base.keep b Z y),λb y=>?_,?_,?_,λid o y=>?_,sm.tape.trans a.base.tape,sm.os.trans a.base.os,sm.CO.trans a.base.CO,by rw[sm.drawn];exact a.base.drawn⟩
     ·rcases t.Cs b (Zv y) with H|H
      ·exact(a.base.Cs b H).symm
      ·exact .inr (FA (by rw[sm.size];exact a.base.size) H)
     ·show l.xo=u.xo;rw[t.xo,a.xo]
     ·show l.gl=u.gl;rw[t.gl,a.gl,hg]
     ·obtain⟨o1,H,h4⟩:=a.base.same id o y;obtain⟨o2,h5,h6⟩:=t.same id o1 H;exact⟨o2,by simp only[A0.CB,ad F id o y];exact h5,h4.trans h6⟩
    obtain⟨q,us,hk,Q,R⟩:=Wc (P:=P.p) (fn:=fn) (SM.same sm a.sm) T Z M;obtain⟨F,k1,k2,k3⟩:=hk;exact⟨IP us,R,.ret (W8 q),_,_,k3,Uh (T9 k1 Q),T.CB k2,tr (Tr.refl _ _) F⟩
   cases ae with
   |normal=>
    cases e<;>simp only[DY]at he;exact z M
   |ret=>
    cases e<;>simp only[DY]at he;exact z M
   |exit n=>cases M
   |panic v=>cases M
  ·simp at J
 ·simp at J
end
section
variable {P:Az} {T:Cy} {sl slk:Xb} {ob:AB} {KO PO:V->AB->Prop} {KV:V->Prop}
@[simp] theorem iwp_rng (x:A):I.wp P sl ob KO PO (.Ic x)=Lw ob KO (x.ev sl) (AA ob (My (x.ev sl))):=by simp only[I.wp]
@[simp] theorem iwp_nxt (x:A):I.wp P sl ob KO PO (.I6 x)=Lu ob KO (x.ev sl):=by simp only[I.wp]
@[simp] theorem iwp_ety (x:A):I.wp P sl ob KO PO (.IW x)=Ls ob (λv=>KO v ob) (x.ev sl):=by simp only[I.wp]
@[simp] theorem iwp_lenM (x:A):I.wp P sl ob KO PO (.EI x)=KG ob (λv=>KO v ob) (x.ev sl):=by simp only[I.wp]
@[simp] theorem iwp_xcall (f:Nat)(l:List A):I.wp P sl ob KO PO (.Bx f l)=CD P f (l.map (A.ev sl)) ob KO:=by simp only[I.wp]
@[simp] theorem mpId_mp (id:Nat):My (.mp id)=id:=rfl
@[simp] theorem rngK_mp (id:Nat)(a:List (D×V)):Lw ob KO (.mp id) (some (.map a))=KO (.hd false (fresh ob)) ((fresh ob,.it (some id) a.length [])::ob):=by simp only[Lw]
@[simp] theorem nxtK_hd (id:Nat):Lu ob KO (.hd false id)=K8 ob id KO (AA ob id):=by simp only[Lu]
@[simp] theorem nxtKo_n (id n:Nat)(l:List Nat):K8 ob id KO (some (.it none n l))=KO (.BE [.d (.bool false)]) ob:=by simp only[K8]
@[simp] theorem nxtKo_s (id j n:Nat)(l:List Nat):K8 ob id KO (some (.it (some j) n l))=PN ob id j n l KO (AA ob j):=by simp only[K8]
@[simp] theorem nxtKm_m (id j n:Nat)(seen:List Nat)(a:List (D×V)):PN ob id j n seen KO (some (.map a))=(a.length=n/\((List.range n).all (λi=>seen.contains i)=true->KO (.BE [.d (.bool false)]) ob)/\
 ∀i,i<n->seen.contains i=false->KO (.BE [.d (.bool true),.d (a.getD i default).1,(a.getD i default).2]) (AG ob id (.it (some j) n (seen++[i])))):=by simp only[PN]
@[simp] theorem entK_hd (id:Nat):Ls ob KV (.hd false id)=No ob KV (AA ob id):=by simp only[Ls]
@[simp] theorem entKo_s (j n:Nat)(l:List Nat):No ob KV (some (.it (some j) n l))=(l≠[]/\PT (l.getLastD 0) n KV (AA ob j)):=by simp only[No]
@[simp] theorem entKm_m (i n:Nat)(a:List (D×V)):PT i n KV (some (.map a))=(i<n/\a.length=n/\KV (.BE [.d (a.getD i default).1,(a.getD i default).2])):=by simp only[PT]
@[simp] theorem lenMK_mp (id:Nat):KG ob KV (.mp id)=PZ KV (AA ob id):=by simp only[KG]
@[simp] theorem lenMo_m (a:List (D×V)):PZ KV (some (.map a))=KV (.d (.int .i64 a.length)):=by simp only[PZ]
@[simp] theorem callvK_hd (a:List V)(id:Nat):V9 P a ob KO PO (.hd true id)=(S1 (AA ob id)/\CL P id a ob (Ef KO PO)):=by simp only[V9]
@[simp] theorem isLp_s (a:Nat)(b:EC):S1 (some (.lp a b sl))=True:=by simp only[S1]
@[simp] theorem cwp2_rgf (b:Nat)(c:List Nat)(g:A)(x y:S)(a:List Nat)(Q:Yt):Ys P T (.E4 b c g x y a) Q sl ob=(V7 P b c x y/\MI P b (Xj sl a) ob Q (g.ev sl)):=by simp only[Ys]
@[simp] theorem rgK_fn (a f:Nat)(c b:List V)(Q:Yt):MI P a slk ob Q (.fn f c b)=(Xd P.p f=true/\AV P f (c++[.hd true (fresh ob)]++b) ((fresh ob,.lp a .ready slk)::ob) (I8 Q slk (fresh ob))):=by simp only[MI]
@[simp] theorem rgQ_r (v:V)(id:Nat)(Q:Yt):I8 Q slk id (.ret v) ob=QE Q slk id ob (AA ob id):=by simp only[I8]
@[simp] theorem rgE_n (a id:Nat)(Q:Yt):QE Q slk id ob (some (.lp a .ready sl))=Q .normal slk (AG ob id .AY):=by simp only[QE]
variable {K:A7->AB->Prop}
@[simp] theorem rdE_s (id n a:Nat)(c b:EC)(K:AB->Prop):MH id n c ob K (some (.lp a b slk))=X0 n K [] (AG ob id (.lp a c slk)):=by simp only[MH]
@[simp] theorem rdQ_n (id n:Nat):TY id n K .normal sl ob=MH id n .ready ob (K (.ret (.d (.bool true)))) (AA ob id):=by simp only[TY]
@[simp] theorem bindS_nil (a:List V):H8 sl [] a=sl:=by simp only[H8]
@[simp] theorem bindS_cons (p:Nat)(a:List Nat)(v:V)(b:List V):H8 sl (p::a) (v::b)=H8 ((p,v)::sl) a b:=by simp only[H8]
end
def TE (P:Az)(T:Cy)(y:S2)(id n:Nat)(K:A7->AB->Prop)(d:Xb)(c:AB):Option Ob->Prop
|some (.lp b .ready a)=>Ys P T y (TY id n K) d (AG c id (.lp b .busy a))
|_=>False
def XP (P:Az)(T:Cy)(y:S2)(id n:Nat)(K:A7->AB->Prop):Yt
|.normal,b,a=>TE P T y id n K b a (AA a id)
|_,_,_=>False
section
variable {P:Az} {T:Cy} {sl slk:Xb} {ob:AB} {K:A7->AB->Prop}
@[simp] theorem rdA2_n (y:S2)(id n:Nat):XP P T y id n K .normal sl ob=TE P T y id n K sl ob (AA ob id):=by simp only[XP]
@[simp] theorem rdB2_s (y:S2)(id n a:Nat):TE P T y id n K sl ob (some (.lp a .ready slk))=Ys P T y (TY id n K) sl (AG ob id (.lp a .busy slk)):=by simp only[TE]
end
theorem CL.AZ {P:Az}{p:Program}(q:P.p=p)(t:p.follows .mixedOrders=true){T:Cy}(i:BD P T){id b:Nat}{f l d:List Nat}{x y:S}{j k:S2}{slk:Xb}{c:AB}{g:List V}{K:A7->AB->Prop}(m:V7 P b f x y)
 (u:x.AZ l=some j) (w:y.AZ d=some k) (r:AA c id=some (.lp b .ready slk)) (a:g.length=f.length) (h:Ys P T j (XP P T k id (fresh c) K) (H8 slk f g) c):CL P id g c K:=by
 subst q;refine CL.of t m r a (S.BA i x u (λe s o h=>?_) h);cases e with
 |normal=>
  simp only[XP]at h;simp only[YY];generalize AA o id=z at h⊢;unfold TE at h;unfold YZ;split at h
  ·exact S.BA i y w (λ_ _ _ h=>h) h
  ·cases h
 |exit n=>cases h
 |ret=>cases h
 |panic v=>cases h
theorem G9 {P:Az}{f E z n:Nat}{ds xs:List D}{g:AB}{K:V->AB->Prop}(h:AV P f (ds.map .d) [] λo b=>o=.ret (.sl 0 n)/\b=[(0,.Ao E z (xs.map .d))])(hK:K (.sl (fresh g) n) ((fresh g,.Ao E z (xs.map .d))::g)):CD P f (ds.map .d) g K:=by
 refine⟨λw G F J hg hr=>?_⟩;let s:A0:=⟨λ_=>none,B2 G,G.gl⟩
 have v:∀b,¬Eg s b:=λb ⟨_,_,h,_⟩=>by cases h
 have T:B2 s=B2 G:=by
  funext b;exact propext ⟨λh=>h.elim (λh=>(v b h).elim) id,λh=>.inr h⟩
 have aa:∀b,B2 G b->b<w.heap.size:=λb h=>h.elim (λ⟨_,_,a,c⟩=>Uf J a c) (J.D7 b);have W:OM w s []:=⟨λj x y=>(by simp[AA]at y),λj o Z=>(by cases Z),λi j o p b hi=>(by cases hi),aa,λb o k=>⟨(J.Dn b o k).1,by rw[T];exact(J.Dn b o k).2⟩,λb k=>absurd k (v b),trivial⟩
 have ab:V.A1 w s (ds.map .d) F:=by
  rw[PF]at hr⊢;rw[T];exact hr
 refine(h.run w s F W hg ab).mono λe L ⟨ae,ad,q,⟨e1,e2⟩,Q,N,t⟩=>?_;subst e1;subst e2;have m1:∀j p,q.m j=some p->j=0:=λj p Z=>by
  obtain⟨x,y⟩:=N.D1 j p Z;simp only[AA]at y;split at y
  ·rename_i e;exact e.symm
  ·cases y
 have BU:=N.BU 0 (.Ao E z (xs.map .d)) (by simp[AA]);obtain⟨o,O⟩:∃o,q.m 0=some o:=by
  rcases BU with⟨a,_⟩|⟨b,M,H,sp,a,_⟩<;>exact⟨_,a⟩
 have k:∀b,o.blk? = some b->w.heap.size<=b:=λb k=>(t.Cs b ⟨0,o,O,k⟩).elim (λh=>(v b h).elim) id;have y:Bv w L:=⟨t.size,λb k=>t.keep b (v b) k,t.tape,t.os,t.CO,t.drawn⟩
 have Y:AA g (fresh g)=none:=Xo g;have ac:B2 q=B2 (G.BS (fresh g) o):=by
  funext b;refine propext ⟨λh=>?_,λh=>?_⟩
  ·rcases h with⟨j,p,a,c⟩|a
   ·have e:=m1 j p a;subst e;rw[O]at a;cases a;exact .inl ⟨fresh g,o,Yd,c⟩
   ·rw[t.xo]at a;rcases a with⟨j,p,a,c⟩|a
    ·have:j≠fresh g:=λe=>by subst e;rw[J.free Y]at a;cases a
     exact .inl ⟨j,p,by simp[A0.BS,this,a],c⟩
    ·exact .inr a
  ·rcases h with⟨j,p,a,c⟩|a
   ·simp only[A0.BS]at a;split at a
    ·cases a;exact .inl ⟨0,o,O,c⟩
    ·exact .inr (t.xo▸.inl ⟨j,p,a,c⟩)
   ·exact .inr (t.xo▸.inr a)
 have X:∀(l:List D)(H:List Value),Br L q (l.map .d) H->Br L (G.BS (fresh g) o) (l.map .d) H:=λl=>by
  induction l with
  |nil=>intro H h;simpa only[HB,Br]using h
  |cons x r ih=>
   intro H h;simp only[Cg,Br]at h⊢;obtain⟨c1,c2,e,a,c⟩:=h;refine⟨c1,c2,e,?_,ih _ c⟩;simp only[V.Ac]at a⊢;rw[<-ac];exact a
 have R:Qh L (G.BS (fresh g) o) (fresh g) (.Ao E z (xs.map .d)):=by
  simp only[Qh]at BU⊢;rw[O]at BU;rw[Yd];rcases BU with a|⟨b,M,H,sp,a,c,U,h4⟩
  ·exact .inl a
  ·exact .inr ⟨b,M,H,sp,a,c,X _ _ U,h4⟩
 cases e with
 |returned u=>
  refine⟨.sl (fresh g) n,_,G.BS (fresh g) o,u,hK,rfl,?_,J.BS y Y k R,Vt L y (J.free Y) k,y⟩;have a:(V.sl 0 n).An L q u:=Q;rw[Yj]at a⊢;obtain⟨o',c,U⟩:=a;rw[O]at c;cases c;exact⟨o,Yd,U⟩
 |_=>exact(Q:False).elim
theorem Xlx {P:Az}{p:Program}(k:P.p=p)(o:p.follows .mixedOrders=true){f:Nat}{s:S}{d:List RV}{b:List V}{a:AB}{K:A7->AB->Prop}{g:List Nat}{e:S2}{T:Cy}(m:Hh p f b.length s d=true)(n:s.AZ g=some e)(l:BD P T)
 (h:(∀c,BO (AE (fresh a) c) b=false)->(∀c,AH (AE (fresh a) c) a=true)->Ys P T e (PA (fresh a) d K) (Uo 0 b) a):AV P f b a K:=
 AV.EM λi j=>by subst k;exact Xly o m (S.BA l s n (λ_ _ _ h=>h) (h i j))
theorem qN {P:Az}{f:Nat}{q:List V}{p:AB}{K:A7->AB->Prop}(h:AV P f q p λo b=>K o b\/(o=.ret (.d .AT)/\∃E z,K (.ret (.sl (fresh b) 0)) ((fresh b,.Ao E z [])::b))):AV P f q p K:=
 ⟨λw G j v s x=>(h.run w G j v s x).mono λe i ⟨o,b,a,k,g,m,t⟩=>by
  rcases k with k|⟨rfl,E,z,k⟩
  ·exact⟨o,b,a,k,g,m,t⟩
  ·have n:AA b (fresh b)=none:=Xo b
   have l:∀b,RO.B4.blk? = some b->i.heap.size<=b:=λb r=>by simp[RO.blk?]at r
   have F:=Vt i (Bv.refl i) (o:=.B4) (m.free n) l;have y:OM i (a.BS (fresh b) .B4) ((fresh b,.Ao E z [])::b):=m.BS (Bv.refl i) n l (.inl ⟨Yd,rfl⟩);refine⟨_,_,_,k,?_,y,t.trans F⟩;cases e with
   |returned u=>
    have c:(V.d .AT).An i a u:=g;show(V.sl (fresh b) 0).An i (a.BS (fresh b) .B4) u;rw[IG]at c;rcases c with⟨c,_⟩|⟨_,c⟩
    ·cases c
    ·simp only[D.An,HY,GK]at c
     exact Yj.2 ⟨.B4,Yd,rfl,c⟩
   |_=>exact(g:False).elim⟩
def Zu (E z B:Nat):S:=.seq (.rg [] [.op (some 2) (.c (.mv .AT))] [0] [])
 (.seq (.seq (.rg [] [.op (some 3) (.c (.mv (.t 0))),
  .op (some 4) (.HO true false (.t 3))] [0,4] [])
 (.cond (.t 4) (.seq (.rg [] [.op (some 2) (.c (.mv .AT))] [2] [])
 (.ret)) (.skip)))
 (.seq (.rg [] [.op (some 5) (.Gx E z [] []),
  .op (some 6) (.c (.mv (.t 0))),
  .op (some 7) (.F7 E z B (.t 5) (.t 6)),
  .op (some 2) (.c (.mv (.t 7)))] [2] [])
 (.ret)))
def ZU (E z B:Nat):S2:=.seq (.rg [] [(0,(.a (.t 0)))] [])
 (.seq (.seq (.rg [.lt 3 [] (.a (.t 0)),.op (some 4) (.HO true false (.t 3))] [(0,(.a (.t 0))),(4,(.a (.t 4)))] [])
 (.cond (.t 4) (.seq (.rg [] [(2,(.a .AT))] [])
 (.ret)) (.skip)))
 (.seq (.rg [.op (some 5) (.Gx E z [] []),.lt 6 [] (.a (.t 0)),.op (some 7) (.F7 E z B (.t 5) (.t 6))] [(2,(.a (.t 7)))] [])
 (.ret)))
theorem vX (E z B:Nat):(Zu E z B).AZ []=some (ZU E z B):=by rfl
theorem Zs {P:Az}{p:Program}(i:P.p=p)(m:p.follows .mixedOrders=true){f E z B:Nat}(j:Xr p f 1 (Zu E z B) [.t 2]=true){c:List D}(n:∀x∈c,x.sz=z)(g:(2*c.length+192)*B<=281474976710656){b:AB}{K:A7->AB->Prop}(h:K (.ret (.sl (fresh b) c.length)) ((fresh b,.Ao E z (c.map .d))::b)):AV P f [.d (.AF z c)] b K:=by
 refine qN ?_;refine Xk i m j (vX E z B) BD.nil λ_ a=>?_;simp[ZU,I.wp,Gt,M5,Hp,Mf];constructor
 ·refine⟨g,[fresh b],by simp[AE],?_,?_⟩
  ·have k:∀(p:Nat->Bool)(l:List D),BO p (l.map .d)=false:=λp l=>by induction l<;>simp_all[BO,V.BJ]
   simp[AE,k];exact a _
  ·simpa[AE]using h
 ·intro e
  exact⟨[],by simp,by simpa using a [],.inr ⟨E,z,by simpa[e]using h⟩⟩
theorem X9i {P:Az}{p:Program}(c:P.p=p)(g:p.follows .mixedOrders=true){f E z B:Nat}(e:Xr p f 1 (Zu E z B) [.t 2]=true){a:AB}{K:A7->AB->Prop}(h:K (.ret (.sl (fresh a) 0)) ((fresh a,.Ao E z [])::a)):AV P f [.d .AT] a K:=by
 refine qN ?_;refine Xk c g e (vX E z B) BD.nil λ_ b=>?_;simp[ZU,I.wp,Gt];exact⟨[],by simp,by simpa using b [],.inr ⟨E,z,by simpa using h⟩⟩
theorem Zbw:Xr Tryz.prog 83 1 (Zu 9 1 16) [.t 2]=true:=by kernel_rfl
theorem Zbx:Xr Tryz.prog 84 1 (Zu 88 5 56) [.t 2]=true:=by kernel_rfl
theorem Zby:Xr Tryz.prog 85 1 (Zu 54 6 96) [.t 2]=true:=by kernel_rfl
theorem Zbz:Xr Tryz.prog 86 1 (Zu 45 5 96) [.t 2]=true:=by kernel_rfl
theorem Zb0:Xr Tryz.prog 87 1 (Zu 66 5 72) [.t 2]=true:=by kernel_rfl
theorem Zb1:Xr Tryz.prog 88 1 (Zu 77 3 48) [.t 2]=true:=by kernel_rfl
theorem Zb2:Xr Tryz.prog 177 1 (Zu 136 11 120) [.t 2]=true:=by kernel_rfl
theorem Zb3:Xr Tryz.prog 178 1 (Zu 98 4 72) [.t 2]=true:=by kernel_rfl
theorem Zb4:Xr Tryz.prog 179 1 (Zu 50 8 96) [.t 2]=true:=by kernel_rfl
theorem Zb5:Xr Tryz.prog 181 1 (Zu 124 11 120) [.t 2]=true:=by kernel_rfl
theorem Ysr:Xr Tryz.prog 182 1 (Zu 127 7 80) [.t 2]=true:=by kernel_rfl
theorem Yss:Xr Tryz.prog 183 1 (Zu 208 5 56) [.t 2]=true:=by kernel_rfl
theorem Yst:Xr Tryz.prog 184 1 (Zu 139 4 48) [.t 2]=true:=by kernel_rfl
def WG:List (Nat×Nat×Nat×Nat):=[(83,9,1,16),(84,88,5,56),(85,54,6,96),(86,45,5,96),(87,66,5,72),(88,77,3,48),(177,136,11,120),(178,98,4,72),(179,50,8,96),(181,124,11,120),(182,127,7,80),(183,208,5,56),(184,139,4,48)]
theorem X03:∀e∈WG,Xr Tryz.prog e.1 1 (Zu e.2.1 e.2.2.1 e.2.2.2) [.t 2]=true:=by
 simp only[WG,List.forall_mem_cons];exact⟨Zbw,Zbx,Zby,Zbz,Zb0,Zb1,Zb2,Zb3,Zb4,Zb5,Ysr,Yss,Yst,λ_ h=>by cases h⟩
def ZT (E z B:Nat)(a:AB):D->Option (V×AB)
|.AT=>some (.sl (fresh a) 0,(fresh a,.Ao E z [])::a)
|.AF c b=>bif Nat.beq c z&&b.all (λx=>Nat.beq x.sz z)&&decide ((2*b.length+192)*B<=281474976710656) then some (.sl (fresh a) b.length,(fresh a,.Ao E z (b.map .d))::a) else none
|_=>none
def WE (f:Nat)(x:D)(a:AB):List (Nat×Nat×Nat×Nat)->Option (V×AB)
|[]=>none
|(g,E,z,B)::r=>bif Nat.beq f g then ZT E z B a x else WE f x a r
theorem X01 {P:Az}(a:P.p=Tryz.prog){f E z B:Nat}(c:Xr Tryz.prog f 1 (Zu E z B) [.t 2]=true){x:D}{g b:AB}{o:V}(h:ZT E z B g x=some (o,b)):CD P f [.d x] g λn i=>n=o/\i=b:=by
 unfold ZT at h;split at h
 ·cases h;exact G9 (ds:=[.AT]) (xs:=[]) (X9i a AO c ⟨rfl,rfl⟩) ⟨rfl,rfl⟩
 ·rw[Cl]at h
  split at h
  ·rename_i e
   cases h;simp only[As,Bs,DQ]at e;obtain⟨⟨j,k⟩,l⟩:=e;rw[CN j];exact G9 (ds:=[.AF _ _]) (Zs a AO c (λx m=>CN (k x m)) l ⟨rfl,rfl⟩) ⟨rfl,rfl⟩
  ·cases h
 ·cases h
theorem wR {P:Az}(a:P.p=Tryz.prog){f:Nat}{x:D}{i b:AB}{o:V}:∀l:List (Nat×Nat×Nat×Nat),(∀e∈l,Xr Tryz.prog e.1 1 (Zu e.2.1 e.2.2.1 e.2.2.2) [.t 2]=true)->WE f x i l=some (o,b)->CD P f [.d x] i λm j=>m=o/\j=b
|[],_,h=>by cases h
|(g,E,z,B)::r,c,h=>by
 simp only[WE,Cl]at h;split at h
 ·rename_i e
  rw[CN e];exact X01 a (c _ List.mem_cons_self) h
 ·exact wR a r (λe k=>c e (Kl _ k)) h
structure RC (y:Ah)(ob:AB):Prop where
 o4:AA ob 4=some (TZ y.AD.length)
 o5:AA ob 5=some (Um y.Al)
 o6:AA ob 6=some (Um (y.Au.map At.name))
 o7:AA ob 7=some (Um (y.AD.map AI.name))
 QC:y.AD.length≠0->AA ob 12=some (.Ao 174 1 (Hb y.AD.length))
 om:∀i,i<y.AD.length->AA ob (Vj i)=some (Um (D0 y.AD i))
theorem Rc5 {y:Ah}{c b a:Ob}:RC y (Y8 y y.AD.length c b a):=⟨lz,Ytu,Ytv,Ytw,aH,λ_ h=>rV h⟩
theorem RC.of {y:Ah}{c b:AB}(h:RC y c)(a:∀j o,AA c j=some o->(∀E z g,o=.Ao E z g->E=174)->AA b j=some o):RC y b:=
 ⟨a _ _ h.o4 (λ_ _ _ e=>by cases e),a _ _ h.o5 (λ_ _ _ e=>by cases e),a _ _ h.o6 (λ_ _ _ e=>by cases e),a _ _ h.o7 (λ_ _ _ e=>by cases e),λf=>a _ _ (h.QC f) (λ_ _ _ e=>by cases e;rfl),λi d=>a _ _ (h.om i d) (λ_ _ _ e=>by cases e)⟩
theorem RC.cons {y:Ah}{a:AB}(h:RC y a)(o:Ob):RC y ((fresh a,o)::a):=h.of λj x b _=>by
 have:fresh a≠j:=λe=>by rw[<-e,Xo]at b;cases b
 simp[AA,this,b]
theorem RC.set {y:Ah}{a:AB}(h:RC y a){id E z:Nat}{g vs':List V}(c:AA a id=some (.Ao E z g))(d:E≠174):RC y (AG a id (.Ao E z vs')):=h.of λj x b f=>by
 have:j≠id:=λe=>by rw[e,c]at b;exact d (f _ _ _ (FQ b).symm)
 rw[Xc a id j ⟨_,c⟩,Af this,b]
def Pk (K:A7->AB->Prop)(b:AB):Prop:=∀a,AA a 1=AA b 1->AA a 2=AA b 2->K (.panic (.d Y5)) a
theorem Xy {p:Nat->Bool}{v:V}(a:V.BJ p v=false):∀{b:List V}(i:Nat),BO p b=false->BO p (b.set i v)=false
|[],_,_=>rfl
|x::r,0,h=>by simp only[BO,FC]at h;simp[BO,a,h.2]
|x::r,i+1,h=>by simp only[BO,FC]at h;simp[BO,h.1,Xy a i h.2]
theorem Vg (n s:Nat)(h:s<(Hb n).length):(Hb n)[s]=.mp (Vj s):=by simp[Hb]
def NP (r:CM):V:=.d r.enc
theorem il (a:List AI)(m:CM):OL a m=(CU (a.map AI.name) m.name).bind λs=>(CU (D0 a s) m.path).map λ(f:Nat)=>{m with AP:=s,field:=f}:=by
 unfold OL;congr 1;funext s;have:Ya a (s:Int)=D0 a s:=by
  unfold Ya D0;simp only[Int.toNat_natCast];cases a[s]?<;>rfl
 rw[this]
section
variable {P:Az} (hP:P.p=Tryz.prog)
include hP
theorem Xyn {a:List D}(c:∀x∈a,x.sz=4)(e:a.length<=1000000){b:AB}{K:V->AB->Prop}(h:K (.sl (fresh b) a.length) ((fresh b,.Ao 139 4 (a.map .d))::b)):CD P 184 [.d (.AF 4 a)] b K:=
 G9 (ds:=[.AF 4 a]) (Zs hP AO Yst c (by omega) ⟨rfl,rfl⟩) h
theorem Xww {y:Ah}{id m i:Nat}{M:List V}{p:AR}(hm:p.CW.length<=1000000){a:AB}(hc:RC y a)(H:AA a id=some (.Ao 77 3 M))(hl:M.length=m)(hv:M[i]? = some (.d p.enc))(Y:∀p,BO p M=false)(aj:id≠1/\id≠2){K:A7->AB->Prop}
 (h1:∀q,W5 y.AD p=some q->K (.ret (.BE [])) (AG a id (.Ao 77 3 (M.set i (.d q.enc))))) (h0:W5 y.AD p=none->Pk K a):
 AV P 93 [.ptr 4 [],.ep id m 3 i 0 []] a K:=by
 refine AV.Gb ?_;refine Xk hP AO Zoj Zkq BD.nil λ_ W=>?_;obtain⟨O,L⟩:=EK.1 hv;have pe:p.enc=.agg [.AM p.name,.AF 4 (p.CW.map CM.enc),iD p.DJ]:=rfl;rw[pe]at L;have v:i<m:=by omega
 simp[Zhu,H,hl,O,v,L];refine Xyn hP (by intro x hx;obtain⟨r,_,rfl⟩:=C9.1 hx;rfl) (by simpa using hm) ?_;have ah:=Xf H;have w:fresh a≠id:=by omega
 simp[H,w,hl,O,v,L,DZ,Bt,Zf];refine⟨⟨_,_,_,⟨rfl,rfl,rfl⟩,by simp⟩,?_⟩;obtain⟨vs',b⟩:∃vs',vs'=M.set i (V.agg [.d (.AM p.name),.sl (fresh a) p.CW.length,.d (iD p.DJ)]):=⟨_,rfl⟩
 rw[<-b];have ai:vs'.length=m:=by rw[b];simpa using hl
 have aa:∀h:i<vs'.length,vs'[i]=V.agg [.d (.AM p.name),.sl (fresh a) p.CW.length,.d (iD p.DJ)]:=λh=>by simp[b]
 have ad:=hc.set (vs':=vs') H (by decide);have fs:fresh (AG a id (.Ao 77 3 vs'))=fresh a:=by simp
 have l4:=Xf hc.o4;have nm:∀{n:Nat}{kp:List Nat}{us:List V},fresh a<=n->AE n kp (fresh a)=false->(∀p,BO p us=false)->AH (AE n kp) ((fresh a,.Ao 139 4 us)::AG a id (.Ao 77 3 vs'))=true:=λQ hk hu=>by
  simp only[AH,hu,Bool.not_false,EA];refine Xn ?_ (X8 W Q);rw[b];exact Xy (by simp[V.BJ,BO,hk]) i (Y _)
 refine Ae.go (ι:=List CM) (λd=>[(0,.ptr 4 []),(1,.ep id m 3 i 0 []),(18,.d (.int .i64 p.CW.length)),(19,.d (.int .i64 d.length))])
  (λd=>(fresh a,.Ao 139 4 ((d++p.CW.drop d.length).map NP))::AG a id (.Ao 77 3 vs')) (λd=>d.length<=p.CW.length/\Ju p.CW (OL y.AD)=DB (λ_=>OL y.AD) d (p.CW.drop d.length)) (λd=>p.CW.length-d.length) [] ⟨by simp,rfl⟩ (by simp) (by simp;exact λ_ _=>rfl) ?_
 rintro d ⟨hd,G⟩ R rn re rr rp;have wl:((d++p.CW.drop d.length).map NP).length=p.CW.length:=by simp;omega
 by_cases c:d.length<p.CW.length
 ·have wr:IntKind.i64.wrap ((d.length:Int)+1)=(d.length:Int)+1:=IntWalk.i64_in _ (by omega);have N:=Jp NP c;have ws:=Jq NP c;rw[Db c,Zd]at G;generalize hu:p.CW[d.length]=u at G N;have ue:NP u=.d (.agg [.AM u.name,.AM u.path,iD u.AP,iD u.field]):=rfl;simp only[ue]at N;generalize Z:(d++p.CW.drop d.length).map NP=us at wl N ws;have z:∀us,RC y ((fresh a,.Ao 139 4 us)::AG a id (.Ao 77 3 vs')):=λus=>by
   have:=ad.cons (.Ao 139 4 us)
   rwa [fs]at this
  have c4:=λus=>(z us).o4;have pn:OL y.AD u=none->∀j,(∀p,BO p j=false)->R (.panic (.d Y5)) [] ((fresh a,.Ao 139 4 j)::AG a id (.Ao 77 3 vs')):=λe j af=>by
   refine rp _ _ _ ?_;rw[e,Option.bind_none]at G;have ae:=h0 (by rw[W5,G];rfl);simp;have ha:∀x,x=1\/x=2->AA ((fresh a,Ob.Ao 139 4 j)::AG a id (.Ao 77 3 vs')) x=AA a x:=λx hx=>by
    have e1:fresh a≠x:=by omega
    rw[AA,Af e1,Xc a id x ⟨_,H⟩,Af (by omega)]
   have F:Xh (AE (fresh a) [fresh a]) ((fresh a,Ob.Ao 139 4 j)::AG a id (.Ao 77 3 vs'))=(fresh a,Ob.Ao 139 4 j)::AG a id (.Ao 77 3 vs'):=by simp[AE]
   have U:=nm (n:=fresh a) (kp:=[fresh a]) (us:=j) (BV _) (by simp[AE]) af;refine⟨[fresh a],by simp,by rw[F];exact U,_,Wk.refl _,[fresh a],by simp[A7.BJ],by rw[F,F];exact U,?_⟩;rw[F,F];exact ae _ (ha 1 (.inl rfl)) (ha 2 (.inr rfl))
  simp[Xzv,c,c4,w,H,ai,aa,v,wl,N,ah];refine Yy hP (z _).o7 (λs hs=>?_) (λQ=>pn (by rw[il,Q];rfl) _ (by subst Z;exact λp=>Xw _ _));have X:s<y.AD.length:=by simpa using Nk hs
  have T:y.AD.length≠0:=by omega
  have ac:=λus=>(z us).QC T;have w1:=ws {u with AP:=s};simp[c4,ac,T,HJ,wl,N,c,Wm,Vg,X];refine Yy hP ((z _).om s X) (λf hf=>?_) (λQ=>pn (by rw[il,hs,Option.bind_some,Q];rfl) _ (λp=>?_))
  ·have w2:=ws {u with AP:=s,field:=f};have hr:OL y.AD u=some {u with AP:=s,field:=f}:=by rw[il,hs,Option.bind_some,hf];rfl
   rw[hr,Option.bind_some]at G;simp[wl,N,c];refine rn [] (d++[{u with AP:=s,field:=f}]) _ _ ⟨by simp;omega,by rw[G,DV];rfl⟩ (by simp;omega) (by simp[wr]) ?_ ?_ ?_
   ·rw[<-w2];have:¬fresh a+1<=fresh a:=by omega
    simp[AE,this]
    all_goals rfl
   ·simp[AE];omega
   ·exact nm (by simp) (by simp[AE]) (λp=>Xw _ _)
  ·exact Xy rfl _ (by subst Z;exact Xw _ _)
 ·have J:d.length=p.CW.length:=by omega
  rw[J,List.drop_length,DB]at G;simp[Xzv,c];refine re _ _ _ ?_;simp;have e:List.drop d.length (p.CW.map NP)=[]:=Gj (by simp[J]);rw[e,GL];have hq:W5 y.AD p=some {p with CW:=d}:=by rw[W5,G];rfl
  obtain⟨t,l⟩:∃t,t=(fresh a,Ob.Ao 139 4 (d.map NP))::AG a id (.Ao 77 3 vs'):=⟨_,rfl⟩
  have li:AA t id=some (.Ao 77 3 vs'):=by rw[l,AA,Af w,Xc a id id ⟨_,H⟩,BL rfl]
  have lf:AA t (fresh a)=some (.Ao 139 4 (d.map λr=>V.d r.enc)):=by rw[l,AA,BL rfl];rfl
  have g:Ct 3 t (V.agg [.d (.AM p.name),.sl (fresh a) p.CW.length,.d (iD p.DJ)])=some (.agg [.AM p.name,.AF 4 (d.map CM.enc),iD p.DJ],AG t (fresh a) .AY):=by
   have hd:∀(x:D)(o:AB),Ct 2 o (.d x)=some (x,o):=λx o=>rfl;show FF (Ej (Ct 2) t _)=_;simp only[Ej,hd,ID (k:=0) CM.enc lf (by decide) J.symm,Uq,FF]
  have sg:AG t (fresh a) .AY=(fresh a,.AY)::AG a id (.Ao 77 3 vs'):=by rw[l];simp[AG]
  have ag:AA (AG t (fresh a) .AY) id=some (.Ao 77 3 vs'):=by rw[sg,AA,Af w,Xc a id id ⟨_,H⟩,BL rfl]
  have ab:=Ox li (i:=i) (by rw[Cn (by omega),aa]) g ag rfl;have Cm:AG (AG t (fresh a) .AY) id (.Ao 77 3 (vs'.set i (.d (.agg [.AM p.name,.AF 4 (d.map CM.enc),iD p.DJ]))))=(fresh a,.AY)::AG a id (.Ao 77 3 (M.set i (.d ({p with CW:=d}:AR).enc))):=by
   rw[sg];have:¬fresh a=id:=w;simp[AG,this,X4,b,List.set_set];rfl
  rw[Cm]at ab;rw[<-l];have F:Xh (AE (fresh a) [fresh a]) t=t:=by rw[l];simp[AE]
  refine⟨[fresh a],by simp,by rw[F,l];exact nm (BV _) (by simp[AE]) (λp=>Xw _ _),_,by rw[F];exact ab,[],by simp[A7.BJ],?_,?_⟩
  ·simp[AE,Xh];exact Xn (Xy rfl _ (Y _)) (W _)
  ·simp[AE,Xh];exact h1 _ hq
end
end Go.Ab
