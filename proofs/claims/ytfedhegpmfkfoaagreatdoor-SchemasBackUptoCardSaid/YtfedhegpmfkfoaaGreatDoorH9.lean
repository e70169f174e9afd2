/- Plain facts on decimal digits and equal tokens. No program. -/
import Derived.Test.YtfedhegpmfkfoaaGreatDoorH8
import Derived.Shelf.Strings.Builder1
import Derived.Shelf.Strconv.Itoa3
import Derived.Shelf.Strings.Shaped
set_option maxRecDepth 100000
set_option linter.unusedSimpArgs false
set_option linter.unusedVariables false
set_option linter.unusedSectionVars false
set_option linter.defProp false
namespace Go.Ab
open Go Go.Proofs
open Go.Proofs.Tryz (prog)
variable {P:Az}(hP:P.p=prog)
def Zh0:B:=[105,115,115,117,101,114,32,105,59,32,115,99,104,101,109,97,32,97,32,98,121,32,105,32,118,101,114,115,105,111,110,32,49,32,115,101,108,102,32,49,32,48,32,48,32,48,32,123,32,125,32,115,99,104,101,109,97,32,98,32,98,121,32,105,32,118,101,114,115,105,111,110,32,49,32,115,101,108,102,32,49,32,48,32,48,32,48,32,123,32,125,32,100,101,114,105,118,101,32,97,32,123,32,102,114,111,109,32,120,32,98,59,32,125,32,100,101,114,105,118,101,32,98,32,123,32,102,114,111,109,32,120,32,97,59,32,125]
def Zh1:B:=[105,115,115,117,101,114,32,105,59,32,115,99,104,101,109,97,32,97,32,98,121,32,105,32,118,101,114,115,105,111,110,32,49,32,115,101,108,102,32,49,32,48,32,48,32,48,32,123,32,125,32,115,99,104,101,109,97,32,98,32,98,121,32,105,32,118,101,114,115,105,111,110,32,49,32,115,101,108,102,32,49,32,48,32,48,32,48,32,123,32,125,32,100,101,114,105,118,101,32,97,32,123,32,102,114,111,109,32,120,32,98,59,32,125]
def Zhz:B:=[47,47,32,119,104,97,116,32,105,115,32,100,101,114,105,118,101,100,10,105,115,115,117,101,114,32,105,59,32,115,99,104,101,109,97,32,97,32,98,121,32,105,32,118,101,114,115,105,111,110,32,49,32,115,101,108,102,32,49,32,48,32,48,32,48,32,123,32,125,32,115,99,104,101,109,97,32,98,32,98,121,32,105,32,118,101,114,115,105,111,110,32,49,32,115,101,108,102,32,49,32,48,32,48,32,48,32,123,32,125,32,100,101,114,105,118,101,32,97,32,123,32,102,114,111,109,32,120,32,98,59,32,125]
abbrev Kr(x1 x2 x3 x4 x5 x6:List D)(o:D):D:=.agg [.agg [.AF 1 x1,.AF 5 x2,.AF 6 x3,.AF 5 x4,.AF 5 x5,.AF 3 x6],o]
include hP
set_option maxHeartbeats 4000000 in
theorem X7i{x1 x2 x3 x5 x6:List D}{r:D}{dg:List D}(h:D.BN dg=D.BN (List.replicate 32 (.int .u8 0)))(y:dg.length=32)(w:(KT.int .u8).Dd dg=true)(v:D.B8 dg dg=true)
 (z:∀a K,K (.BE [.d We,.d (iD 0)])->AU P 7 [.d (.agg [.AT,.AT,.AT,.AT,.AT,.AT])] a K)
 (k:∀a K,K (.BE [.d (Kr [] [] [] [] [] [] .AT),.d (iD 0),.d (iD 0)])->AU P 17 [.d (.AM [])] a K)
 (l:∀a K,K (.BE [.d We,.d (iD 6),.d (iD 100)])->AU P 17 [.d (.AM [115,99,104,101,109,97])] a K)
 (m:∀a K,K (.BE [.d We,.d (iD 0),.d (iD 141)])->AU P 17 [.d (.AM Zh0)] a K)
 (n:∀a K,K (.BE [.d (Kr x1 x2 x3 [r] x5 x6 (.AF 1 [iD 1,iD 0])),.d (iD 0),.d (iD 0)])->AU P 17 [.d (.AM Zh1)] a K)
 (o:∀a K,K (.BE [.d (Kr x1 x2 x3 [r] x5 x6 (.AF 1 [iD 1,iD 0])),.d (iD 0),.d (iD 0)])->AU P 17 [.d (.AM Zhz)] a K)
 (p:∀a K,K (.BE [.d (.agg dg),.d (iD 0)])->AU P 18 [.d (Kr x1 x2 x3 [r] x5 x6 (.AF 1 [iD 1,iD 0]))] a K)
 (q:∀a K,K (.d (.bool true))->AU P 19 [.d We,.d We] a K)
 (s:∀a K,K (.d (.bool true))->AU P 19 [.d (Kr [] [] [] [] [] [] .AT),.d We] a K)
 (i:∀a K,K (.d (iD 160))->AU P 12 [.d (.agg [.agg [.AT,.AT,.AT,.AT,.AT,.AT],.AF 1 [iD 0]])] a K)
 (j:∀a K,K (.d (iD 0))->AU P 12 [.d We] a K)
 (x:∀a K,K (.d (.bool true))->AU P 14 [.d (.AF 1 [iD 1,iD 0]),.d (.AF 1 [iD 1,iD 0])] a K)
 (t:∀a K,K (.d (.bool true))->AU P 20 [.d (Kr x1 x2 x3 [r] x5 x6 (.AF 1 [iD 1,iD 0])),.d (Kr x1 x2 x3 [r] x5 x6 (.AF 1 [iD 1,iD 0]))] a K)
 (u:∀a K,K (.d (.bool false))->AU P 20 [.d (Kr x1 x2 x3 [r] x5 x6 (.AF 1 [iD 1,iD 0])),.d We] a K)
 {a:AB} {K:V->Prop} (F:K (.d (.bool true))):AU P 5 [] a K:=by
 refine AJ hP AO (ds:=[]) ok5 lf5 BD.nil ?_;have b:(Kr x1 x2 x3 [r] x5 x6 (.AF 1 [iD 1,iD 0])).shape=.node [.node [.AX,.AX,.AX,.AX,.AX,.AX],.AX]:=rfl;have c:(Kr [] [] [] [] [] [] .AT).shape=.node [.node [.AX,.AX,.AX,.AX,.AX,.AX],.AX]:=rfl;have e:We.shape=.node [.node [.AX,.AX,.AX,.AX,.AX,.AX],.AX]:=rfl;simp[Et5,-List.reduceReplicate];refine z _ _ ?_;simp[Yrk,b,c,e,-List.reduceReplicate];refine k _ _ ?_;simp[Yrj,b,c,e,-List.reduceReplicate];refine l _ _ ?_;simp[Yri,b,c,e,-List.reduceReplicate];refine m _ _ ?_;simp[Yrh,b,c,e,-List.reduceReplicate];refine n _ _ ?_;simp[Yrg,b,c,e,-List.reduceReplicate];refine o _ _ ?_;simp[bT,b,c,e,-List.reduceReplicate];have g:Sh.BR (D.BN (List.replicate 32 (D.int IntKind.u8 0)))=32:=by decide
 have f:(D.agg dg).shape=Sh.node (D.BN (List.replicate 32 (D.int IntKind.u8 0))):=by simp only[D.shape,h]
 refine p _ _ ?_;simp[Ye7,b,c,e,f,g,-List.reduceReplicate];refine⟨h,p _ _ ?_⟩;simp[Yrf,-zw,↓Zl,↓qq,↓qt,↓qm,↓wz,↓ww,↓wy,↓ya,↓wx,↓ye,b,c,e,f,g,-List.reduceReplicate];refine⟨h,q _ _ ?_⟩;simp[-zw,↓Zl,↓qq,↓qt,↓qm,↓wz,↓ww,↓wy,↓ya,↓wx,↓ye,b,c,e,f,g,-List.reduceReplicate];refine s _ _ ?_;simp[-zw,↓Zl,↓qq,↓qt,↓qm,↓wz,↓ww,↓wy,↓ya,↓wx,↓ye,b,c,e,f,g,-List.reduceReplicate];refine i _ _ ?_;simp[-zw,↓Zl,↓qq,↓qt,↓qm,↓wz,↓ww,↓wy,↓ya,↓wx,↓ye,b,c,e,f,g,-List.reduceReplicate];refine j _ _ ?_;simp[-zw,↓Zl,↓qq,↓qt,↓qm,↓wz,↓ww,↓wy,↓ya,↓wx,↓ye,b,c,e,f,g,-List.reduceReplicate];refine x _ _ ?_;simp[-zw,↓Zl,↓qq,↓qt,↓qm,↓wz,↓ww,↓wy,↓ya,↓wx,↓ye,b,c,e,f,g,-List.reduceReplicate];refine t _ _ ?_;have G:Sh.BR (D.BN dg)=32:=by rw[h];exact g
 simp[-zw,↓Zl,↓qq,↓qt,↓qm,↓wz,↓ww,↓wy,↓ya,↓wx,↓ye,b,c,e,f,g,-List.reduceReplicate,v,y,w,G];refine u _ _ ?_;simp[-zw,↓Zl,↓qq,↓qt,↓qm,↓wz,↓ww,↓wy,↓ya,↓wx,↓ye,b,c,e,f,g,-List.reduceReplicate,v];exact F
theorem Yd1(e:Bj P 5 Cp){s o:D}{txt:B}(f:s.shape=.node [.AX,.AX,.AX,.AX,.AX,.AX])(i:o.shape=.AX)(g:∃l,s=.agg l)(n:txt.length<=9223372036854775807)
 (m:∀c K,K (.d (iD 0))->AU P 12 [.d (.agg [s,o])] c K)
 (p:∀c K,K (.BE [.d (.AM txt),.d (iD 0)])->AU P 42 [.d s] c K) {c:AB} {K:V->Prop}
 (h:K (.BE [.d (Pw [115,99,104,101,109,97,115] txt),.d (iD 0)])):AU P 18 [.d (.agg [s,o])] c K:=by
 refine AJ hP AO (ds:=[.agg [s,o]]) Zm6 Zjc BD.nil ?_;have t:s.sz=6:=by rw[<-CC,f];rfl
 have r:o.sz=1:=by rw[<-CC,i];rfl
 obtain⟨l,rfl⟩:=g;have a:D.BN l=[.AX,.AX,.AX,.AX,.AX,.AX]:=by
  simpa[D.shape]using f
 have u:Sh.BR [Sh.AX,.AX,.AX,.AX,.AX,.AX]=6:=rfl;have j:Sh.BR (D.BN (List.replicate 32 (D.int IntKind.u8 0)))=32:=by decide
 have q:List.replicate 32 (D.int .u8 0)=(List.replicate 32 (0:Int)).map CP:=rfl;simp[Zc9,f,i,t,r,a,-List.reduceReplicate];refine m _ _ ?_;simp[a,-List.reduceReplicate];refine p _ _ ?_;simp[a,-List.reduceReplicate];refine Yd2 hP e (by simp) n ?_;simp[-List.reduceReplicate];have b:(Pw [115,99,104,101,109,97,115] txt).shape=Sh.node (D.BN (List.replicate 32 (D.int .u8 0))):=by
  obtain⟨X,k⟩:∃X,Pw [115,99,104,101,109,97,115] txt=.agg ((HE X).map CP):=⟨_,rfl⟩
  rw[k,q];simp only[D.shape,vf]
 refine⟨b,j,by rw[b];exact j,rfl,h⟩
omit hP
def Yai(a s:List UInt8):∃X,Pw a s=.agg ((HE X).map CP):=⟨_,rfl⟩
def uy:∀l:List Int,D.B8 (l.map CP) (l.map CP)=true
|[]=>rfl
|x::r=>by
 have h:=uy r;simp[D.B8,D.Bg,CP]at h⊢;exact h
def rQ:∀l:List Int,(KT.int .u8).Dd (l.map CP)=true
|[]=>rfl
|x::r=>by
 have h:=rQ r;simp[KT.Dd,KT.Bk,CP]at h⊢;exact h
def n144:Nat:=0x117e2ae00941a7d304c0021af00b0620430a9068
def Y2u:S:=zS [] n144
def Zk0:Nat:=0x10400c104a235033c0d08f17e
def Y2v:S:=zS [] Zk0
def Zk1:Nat:=0x1baf00405e01301c33d0fd0550335bf92db8e
def Y2w:S:=zS [] Zk1
def Zk2:Nat:=0x1305180235033c0d08f17e
def Y2x:S:=zS [] Zk2
def Zk3:Nat:=0x11c7ab1013a3d0421b52b50013f88f000f0465df00d27d5371e97c384b05f3e125953e1ee0bf92e1cd
def Y2y:S:=zS [] Zk3
def Ynt:Nat:=0x107d01808f36c04d013a79b32a7c0331a437e159
def Zk4:Nat:=0x185109b42e01432e494b058c90f5012d863d903a8d2c07d371a29048a21f5d8695bc07be90119bd583d373ac00e14711e176a8538234e15f00c07e11e04c012d8695bc0790411e58300e14711e176a8538234e15f9ec34ea01d373ac82011e08e00a09f11e05a17501e34e8a0044106009759b320e953eaa109b26104d53d1a62ad214078
def Y2z:S:=zS [(zS [] Ynt)] Zk4
def Ynu:Nat:=0x106b0de1b507400414e9b300a00b07500731f16309e40ac9900326705319e0060bf23589d0dc29e633841841004236b96006081
def Zk5:Nat:=0x107700d85c31f5b54c29b306606b0de3f2948d570393ff
def Y20:S:=zS [(zS [] Ynu)] Zk5
def Zk6:Nat:=0x109502679502549002407001b08b17d0230224081911c919194519102078c191ade00419a19101e07e19101d050a6709f1910bf88504317d33d0190b217d1ee17d540a5e0080150140b200d4751f701399601248d1f7a3c00405a1f701099600f48d7ca05d1f709b76113500b20800a0047771b600716f0211651ab
def Y21:S:=zS [] Zk6
def Zk7:Nat:=0x10770128ed01404558357601033634242024004d00d0ed1e72dd5111462251760359aa03ab6c336cf1004cc802f67d3c33ff
def Y22:S:=zS [] Zk7
def Zk8:Nat:=0x176385c0451a257600d3365113c400a3c161104706c0161292140087e29d06200c10369aad6396467dc903ff
def Y23:S:=zS [] Zk8
def Ynw:Nat:=0x1cbf3a8cd19704a504805d0afcf4
def Ynv:Nat:=0x1758
def Zk9:Nat:=0x173107b0326cf
def Y24:S:=zS [(zS [(zS [] Ynw)] Ynv)] Zk9
def Zla:Nat:=0x107d00508f0620470377e807883e0330430095170391a9
def Y25:S:=zS [] Zla
def Ynx:Nat:=0x107787438563dcdc0163ed37e19f
def Zlb:Nat:=0x154301150601408304d08d010013a3d08617100d09400d01102506401e0bbc613d701e7ad2703fa0023f50d601cd095583c408b6accf193602fc235913ff
def Y26:S:=zS [(zS [] Ynx)] Zlb
def Ynz:Nat:=0x1bbc0fc32252d9701183e9690cf4
def Yny:Nat:=0x1758
def Zlc:Nat:=0x173173f52d6cf
def Y27:S:=zS [(zS [(zS [] Ynz)] Yny)] Zlc
def Yn0:Nat:=0x107701d8ed01404558357601b33601901a0050143b204d21e0391a4266159
def Zld:Nat:=0x116a09823600c49e04714503d0da00a336021b6c3ed08719f05c09818001749e1c923c0de03d54c015c462ae0146848ae0785f60de14901e03c54c012b414282ab04778e0106840110201c9b220de06442f54c00e5263d70b704b94800618d01422505d0395bf61104728400555951bc23a0c3ff
def Y28:S:=zS [(zS [] Yn0)] Zld
def Yn2:Nat:=0x1cbf0188542da9707db00110acf4
def Yn1:Nat:=0x1758
def Zle:Nat:=0x1a990072da6cf
def Y29:S:=zS [(zS [(zS [] Yn2)] Yn1)] Zle
def Zlf:Nat:=0x17634b7211cdc00d33600b1b501426c1760399aa03db6c336cf1bdbc239a83ff
def Y3a:S:=zS [] Zlf
def Yn4:Nat:=0x1bbc0fc10c3899707656e6
def Yn3:Nat:=0x1758
def Zlg:Nat:=0x1a990053896cf
def Y3b:S:=zS [(zS [(zS [] Yn4)] Yn3)] Zlg
def Yn5:Nat:=0x107701a06c014124cdc0183ed26619f
def Zlh:Nat:=0x1543aff9df01500c01c091c351263e70127b554c011c46ad79df282c3516f27002b54c0d601cd095583c408b6ac03d0da00633600405d0140780516ac1183893ff
def Y3c:S:=zS [(zS [] Yn5)] Zlh
def Yn7:Nat:=0x1cbfcba82b2315ae6e6
def Yn6:Nat:=0x1758
def Zli:Nat:=0x1731cba6cf
def Y3d:S:=zS [(zS [(zS [] Yn7)] Yn6)] Zli
def Zlj:Nat:=0x1aae85c0451a257600c3361d03c400800a49e07268d0090250070d005ac618420090c4bf767d9c73ff
def Y3e:S:=zS [] Zlj
def Zlp:Nat:=0x19a698658000b1ed4d3
def Y3f:S:=zS [] Zlp
def Zlq:Nat:=0x1c0a9b758000402a9b8
def Y3g:S:=zS [] Zlq
def Zlr:Nat:=0x142c3a8cd1580cd14d3
def Y3h:S:=zS [] Zlr
def Zls:Nat:=0x19a632252d58000b52d4d3
def Y3i:S:=zS [] Zls
def Zlt:Nat:=0x142c0188542da5800072da4d3
def Y3j:S:=zS [] Zlt
def Zlu:Nat:=0x19a610c3899ac3894d3
def Y3k:S:=zS [] Zlu
def Zlv:Nat:=0x142ccba5800044064d3
def Y3l:S:=zS [] Zlv
def Yod:Nat:=0x131704c6652e30fe61e0ee3f32e2
def Zlw:Nat:=0x1316
def Y3m:S:=zS [(zS [] Yod)] Zlw
def Yoe:Nat:=0x1a1aadf9779c0
def Zlx:Nat:=0x1316
def Y3n:S:=zS [(zS [] Yoe)] Zlx
def Zly:Nat:=0x107701b1a701a5a774899b78505e016330100b2403c4b58d7ae6267001bed0142bc01359f38f0116a8cb168f00e51eb4fb7810900d1a700c09e05900b0b24bc00a05e0093304bc04c00768f0062011e981dae6186b7d05e0d15c61a54ba113
def Y3o:S:=zS [] Zly
def Yof:Nat:=0x14830064170086c64b005a0eebac2e2
def Zlz:Nat:=0x1316
def Y3p:S:=zS [(zS [] Yof)] Zlz
def Zl0:Nat:=0x10770f81a70e102b11ec690ef00303c2fc93405e1e854974d00003b1ff8f802900303a1a4b5a069a471e937774ca4ba05180bfa14c79f5ff05014c6034540791b5c660200dfb7b17e0200200090865e501e2b76c596384f14305901c7253bb06901c809377786a640700151c40184081d4ae785e7460a0192ce8b2320717c20b3b495b00020b52a00e68020b00703e03c89b8d786f2670009bf00c7e900b86900a68f34e00907e00856304751007900926015d00405e3050200177e5c22
def Y3q:S:=zS [] Zl0
def Yog:Nat:=0x1a1a57b4b09c0
def Zl1:Nat:=0x1316
def Y3r:S:=zS [(zS [] Yog)] Zl1
def Zl2:Nat:=0x107701a1a70190161ad8676200181f395676905e01640fbed0142bc00286722a01305195638f0117df39653303f1ff180a5703e2fcd41330d560061c4009237276a2903d43dc7659701933802d113
def Y3s:S:=zS [] Zl2
def Yoh:Nat:=0x1a1a9fb9779c0
def Zl3:Nat:=0x1316
def Y3t:S:=zS [(zS [] Yoh)] Zl3
def Zl4:Nat:=0x1c4c87b073867620152006956d4000e338472113
def Y3u:S:=zS [] Zl4
def Yoi:Nat:=0x148348ec7c881b269770510ee00337d
def Zl5:Nat:=0x1316
def Y3v:S:=zS [(zS [] Yoi)] Zl5
def Zl6:Nat:=0x1b6f1a700f5330098675e2a572ad11ad416a8d567a212999b27600805e006c7613e1690f505d04d26777459700f338c3e
def Y3w:S:=zS [] Zl6
def Zl7:Nat:=0x117e0ea02b22f0f80010c63de0e1a380ef2500e006c00300900f1c8685000ab826a02904802900304402a5b423661802b3ef04088a22fb532c83421493a668500002686b02304889e4b5024a8e1806180253ef0405feb280432c80050f90691cc5e986b8f7a5905c0e801eb0b0052d73ef17e01b01622f4450173de0191d001890a617002b9b26a85d00309002f0140df01390a06853d2bc22f2b300d0020f700906b4850040bead381caeace01cc0d606d0460510540120c17a700e6858ac38c0060480614b500700707400515cae904b0030440041de078ac414bac7
def Y3x:S:=zS [] Zl7
def Zma:Nat:=0x1d7b0085dc4700380bbd8d8ec5b60b2d84cd514b0116451a9
def Y3y:S:=zS [] Zma
def Yok:Nat:=0x1d94
def Zmb:Nat:=0x1d8a
def Y3z:S:=zS [(zS [] Yok)] Zmb
def Yol:Nat:=0x109501d0dc2a71a2050aa37cb07501b042aa62b50018528f00180468b301627d76e4391af044a36420d073cf19004e85a38261e01004200f09f010681
def Zmc:Nat:=0x117900605f42e00d41a1e4006044449949cce1ee0400fe92e006277d0700728b
def Y33:S:=zS [(zS [] Yol)] Zmc
def Zmd:Nat:=0x107d00e24500d09e4f716b4bc00b05e4bc1b9ad14754bc41216b04b04607800b37308f0af03b247
def Y34:S:=zS [] Zmd
def Yom:Nat:=0x10770e1002146187888078
def Zme:Nat:=0x116a04542e0620180a306b01e04748d0c60ef07509378e02b1e602a0040290467bf19a48d0270280757bf2530260020369aa236025684026020078ac60220de024a680e900900f1c8a03023b41a8e95d0439d60219a318002068436816c8f701d0de01f2d63421493a6a0301eb41a4695d01f9cc01c9a32ae01b68401c02016c3d20de1321cf0f90693f50195261500b705c045affcbb0153c116c8170de6170023f5013c460110129a339a8243058585a402f00d7e25113c43e182430505004778e008684bbe07881d0c1a5a0d00120c17a700ea0300652684206804b94821d3ff
def Y35:S:=zS [(zS [] Yom)] Zme
def Zmf:Nat:=0x107d0122ee03b01100b01087d26d00c00401a03b00d75901b03b1dc0062b5b3305f85678b043009013618b0d06131f0090a904526603b01700a03a07804b25dd2108e01a0651ee4b995d0020302ee03b5e9039247
def Y36:S:=zS [] Zmf
def Zmg:Nat:=0x1baf0040fd05553e0010460400830711f0092
def Y37:S:=zS [] Zmg
def Zmh:Nat:=0x128d00a0af0a10090b112a04b0c402e0da0063ed10a52304706c8d901a06580533dd2d
def Y39:S:=zS [] Zmh
def Zmi:Nat:=0x1b6f06c0141240541652213c400c00e49ed2ab6001e176c6117501ec3d00806c0f904a24043109a0d8063061c35af425e002090b3205501fd091180303ff
def Y4a:S:=zS [] Zmi
def Yon:Nat:=0x148300b4179616c54b0d5037d
def Zmj:Nat:=0x1316
def Y4b:S:=zS [(zS [] Yon)] Zmj
def Zmk:Nat:=0x10771b3c7205601015c0bb00f2368ab03b74e67111a0f768a00e03b671176000a727e86710f7c998ca00f03b67100b1b3c7205601015c0bb00f2368ab9560e411a000a727e86710f7c990032676711430f768a84f308002211b9e0e40090e700008b05626207300108b01c66f27605a7977743800834991824b44ab25d05e0010490430100541a51ed113
def Y4c:S:=zS [] Zmk
def Yoo:Nat:=0x14831a2c7cb2577097704eacd37d
def Zml:Nat:=0x1316
def Y4d:S:=zS [(zS [] Yoo)] Zml
def Zmm:Nat:=0x1b6f1a700f53300e59fd416a8d560078501ff6200090512fc96500805e96504928003d12604a0052080692fe00f33833e113
def Y4e:S:=zS [] Zmm
def Yop:Nat:=0x14830084171e59e44b008b0ee00837d
def Zmn:Nat:=0x1316
def Y4f:S:=zS [(zS [] Yop)] Zmn
def Zmo:Nat:=0x10770231a70225ca02107001e08b2aa020a312bf00042f0c587201e68042f8d501c8b4a660895d4c8159f29c01805e0176a874749468f01451e8ae0110425e50130e80567421c40110b220b01005e20b00f13000e7df20b00d089533a9800b0b211e00a05e42529d0087df11e26a02f0069a9071001055005020011338032113
def Y4g:S:=zS [] Zmo
def Zmp:Nat:=0x1c4c990a850b2d4000ec60
def Y4h:S:=zS [] Zmp
def Yoq:Nat:=0x148300b417961d4b4b0d5037d
def Zmq:Nat:=0x1316
def Y4i:S:=zS [(zS [] Yoq)] Zmq
def Zmr:Nat:=0x1b4b1a78a52071e666f1641853800100a0006b9e90999011a00366f0e40f738000b6a858a7b100816b27634b2760497740052b5bbb05520101333852d113
def Y4k:S:=zS [] Zmr
def Zms:Nat:=0x1b4b0a1528011207a312bf0000c708387239615c25f99b0e400d8100e452f00158aa980080b283016f186b7d201013c60
def Y4l:S:=zS [] Zms
def Yor:Nat:=0x1483007417073d324b008e0ee00737d
def Zmt:Nat:=0x1316
def Y4m:S:=zS [(zS [] Yor)] Zmt
def Zmu:Nat:=0x107700a1a726200829b66f27608e05d106c765971e91a52da113
def Y4n:S:=zS [] Zmu
def Yos:Nat:=0x1a1ac9c4b09c0
def Zmv:Nat:=0x1316
def Y4o:S:=zS [(zS [] Yos)] Zmv
def Zmw:Nat:=0x1b4b1a78a5008cc701216bc5940f90987b07303f03f03f4e000d3ebd40013338389113
def Y4p:S:=zS [] Zmw
def Yot:Nat:=0x14831a2c7cb259c74b004eacd37d
def Zmx:Nat:=0x1316
def Y4q:S:=zS [(zS [] Yot)] Zmx
def Zmy:Nat:=0x107700a1a7262a261e91a5406113
def Y4r:S:=zS [] Zmy
def Zmz:Nat:=0x134806201e02c54c0a701f1e708306809b056043042
def Y4u:S:=zS [] Zmz
def Yov:Nat:=0x1bbc0a687dbd66e6
def You:Nat:=0x1758
def Zm0:Nat:=0x1a995346cf
def Y4v:S:=zS [(zS [(zS [] Yov)] You)] Zm0
def Zm1:Nat:=0x13480c101e04e55308306809b02c0da04d01b06509b05431033d043042
def Y4w:S:=zS [] Zm1
def Zm2:Nat:=0x12721090cb1a738bbb10195360410b235b0fd01879335baa004e35b01615135b54935b01415135b00110535b0123d10118480a40027ee4bd0512fc00ea5f15100e05854900e058be71350c2ad375fbfe00b0adb2cd7013e05400927907623602906d1700780779b01a700606738ec0e0b20027390411a2aa4b5705854900205870009b9d64de0d69400540470ad00a042b310350291e612c03601e18002900b0373ef07713b1a7c3b1c40ff0b235911d04e3590ea05e3595493590e100001f9cc0ef0d60c67b286100a0428d82681e602b02bb0b02900b02cae968b05402851ea470780a727274ca4b070023a98bfa47379f0236804730221350210df02062b368008c2001f1a785f1c401d0b22b601c04e2b6c7a549d43010559a6208b16401668f00088207e0146802e65e016433d0120b2c597df90900e22023b99baac7273300bd52f0010bd34195b34b0d152f01b04281d05d78e5e80552015c61a514b113
def Y4x:S:=zS [] Zm2
def Yow:Nat:=0x131704c6652e30fe61e0ee3f32e2
def Zm3:Nat:=0x1316
def Y4y:S:=zS [(zS [] Yow)] Zm3
mutual
def Sh.beq:Sh->Sh->Bool
|.AX,.AX=>true
|.node a,.node b=>Oy a b
|_,_=>false
def Oy:List Sh->List Sh->Bool
|[],[]=>true
|x::r,y::s=>Sh.beq x y&&Oy r s
|_,_=>false
end
mutual
def Sh.beq_eq:∀(a b:Sh),Sh.beq a b=true->a=b
|.AX,.AX,_=>rfl
|.node c,.node d,h=>by simp only[Sh.beq]at h;rw[qS c d h]
|.AX,.node _,h=>by simp[Sh.beq]at h
|.node _,.AX,h=>by simp[Sh.beq]at h
def qS:∀(a b:List Sh),Oy a b=true->a=b
|[],[],_=>rfl
|x::r,y::s,h=>by
 simp only[Oy,As]at h;rw[Sh.beq_eq x y h.1,qS r s h.2]
|[],_::_,h=>by simp[Oy]at h
|_::_,[],h=>by simp[Oy]at h
end
def V.H0:V->Bool
|.any=>true
|_=>false
def nz(v:V):Option V:=bif v.H0 then none else some v
def De(b:Bool)(v:V):Option V:=bif b then some v else none
def Yy8:V->V->V->Option V
|.d (.bool t),.d (.bool x),.d (.bool y)=>some (.d (.bool (bif t then x else y)))
|.d (.bool t),x,y=>some (bif t then x else y)
|_,_,_=>none
def Zcu(c:BinOp)(k d:IntKind)(a b:Int):Option V:=
 match c with
 |.shl=>De (decide (0<=b)) (Ul c k a b)
 |.shr=>De (decide (0<=b)) (Ul c k a b)
 |.quo=>De (decide (k=d)&&decide (b≠0)) (Ul c k a b)
 |.rem=>De (decide (k=d)&&decide (b≠0)) (Ul c k a b)
 |_=>De (decide (k=d)) (Ul c k a b)
def Zgm(a:BinOp)(x y:List UInt8):Option V:=
 match a with
 |.add=>De (decide (x.length+y.length<=9223372036854775807)) (M8 a x y)
 |.eql|.neq|.lss|.leq|.gtr|.geq=>some (M8 a x y)
 |_=>none
def Zbq(c:BinOp):V->V->Option V
|.d (.int k a),.d (.int e b)=>Zcu c k e a b
|.d (.AM x),.d (.AM y)=>Zgm c x y
|_,_=>none
def Yz8(id n:Nat):Option Ob->Option V
|some (.A9 _ b a)=>De (decide (b≠0)&&decide (n=a.length)&&!a.isEmpty) (.sd id n)
|_=>none
def Zgq(a:AB):V->Option V
|.sl id n=>Yz8 id n (AA a id)
|.d .AT=>some (.d .B1)
|_=>none
def Zcs:V->V->Option V
|.d (.AM s),.d (.int _ n)=>De (decide (0<=n)&&decide (n<s.length)) (.d (.int .u8 (s.getD n.toNat 0).toNat))
|_,_=>none
def l9(z:Nat):Option V->Bool
|some v=>decide (v.size=z)
|none=>false
def l8(z b n:Nat):Option (List V)->Bool
|some a=>decide (b+n<=a.length)&&a.all (λk=>decide (k.size=z))
|none=>false
def Yt1(b:AB)(z:Nat):V->V->Option V
|.d (.AF e c),.d (.int _ n)=>De (decide (z=e)&&decide (0<=n)&&decide (n<c.length)) (.d (.Bd (c.getD n.toNat default)))
|.sl id n,.d (.int _ m)=>De (decide (0<=m)&&decide (m<n)&&l9 z (W2 n m.toNat (AA b id))) (.ep id n z m.toNat 0 [])
|.bs id p a n,.d (.int _ m)=>De (decide (0<=m)&&decide (m<n)&&l8 z a n (Y4 (Cj b id p))) (.ptr id (p++[a+m.toNat]))
|_,_=>none
def SF(a z:Nat)(v:V):Option (List V)->Option V
|some b=>De (decide (b.length=a)&&b.all (λk=>decide (k.size=z))) v
|none=>none
def YJ(c:AB)(a z:Nat):V->V->Option V
|.ptr id p,.d (.int _ n)=>bif decide (0<=n)&&decide (n<a) then SF a z (.ptr id (p++[n.toNat])) (Y4 (Cj c id p)) else none
|.d (.Bd (.agg b)),.d (.int _ n)=>De (decide (0<=n)&&decide (n<a)&&decide (b.length=a)&&b.all (λx=>decide (x.sz=z))) (.d (.Bd (b.getD n.toNat default)))
|_,_=>none
def Yet(id:Nat)(p:List Nat)(f b:Nat):Option (List V)->Option V
|some a=>De (decide (f<a.length)&&decide (Sh.BR ((a.take f).map V.shape)=b)) (.ptr id (p++[f]))
|none=>none
def Ytk(c:AB)(f a:Nat):V->Option V
|.ptr id p=>Yet id p f a (Y4 (Cj c id p))
|.d (.Bd (.agg b))=>De (decide (f<b.length)&&decide (Cf (b.take f)=a)) (.d (.Bd (b.getD f default)))
|.ep id n z i g p=>some (.ep id n z i (g+a) (p++[f]))
|_=>none
def Zco(f c n:Nat)(b:Bool):Option (List V)->Option V
|some a=>De (decide (f<a.length)&&decide (Sh.BR ((a.take f).map V.shape)=c)&&decide ((a.getD f .any).size=n)&&((a.getD f .any).isAgg==b)) (a.getD f .any)
|none=>none
def S3(n:Nat)(a:Bool):Option V->Option V
|some v=>De (decide (v.size=n)&&(v.isAgg==a)) v
|none=>none
def P9(b:AB)(n:Nat)(a:Bool):V->Option V
|.ptr id p=>S3 n a (Cj b id p)
|.d (.Bd x)=>De (decide (x.sz=n)&&((V.d x).isAgg==a)) (.d x)
|.ep id m z i f p=>S3 n a (FW b id m z i f p)
|_=>none
def Yyr:V->Option V
|.ptr id p=>some (.ptr id p)
|.ep id n z i f p=>some (.ep id n z i f p)
|.d (.Bd x)=>some (.d (.Bd x))
|.fn f a b=>some (.fn f a b)
|.d (.fn f a b)=>some (.d (.fn f a b))
|_=>none
def Ye4(n:Nat):Option Ob->Option V
|some (.A9 _ _ a)=>De (decide (n=a.length)) (.d (.int .i64 n))
|some (.Ao _ _ a)=>De (decide (n=a.length)) (.d (.int .i64 n))
|_=>none
def Ye3(n:Nat):Option Ob->Option V
|some (.box _ _)=>some (.d (.int .i64 n))
|_=>none
def Yus(a:AB):V->Option V
|.d (.AF _ b)=>some (.d (.int .i64 b.length))
|.d .AT=>some (.d (.int .i64 0))
|.sl id n=>Ye4 n (AA a id)
|.bs id _ _ n=>Ye3 n (AA a id)
|_=>none
def Sn(a:Nat):Option V->Option V->Option (Nat×Nat)
|none,none=>some (0,a)
|some (.d (.int _ l)),none=>bif decide (0<=l)&&decide (l<=a) then some (l.toNat,a) else none
|none,some (.d (.int _ h))=>bif decide (0<=h)&&decide (h<=a) then some (0,h.toNat) else none
|some (.d (.int _ l)),some (.d (.int _ h))=>bif decide (0<=h)&&decide (h<=a)&&decide (0<=l)&&decide (l<=h) then some (l.toNat,h.toNat) else none
|_,_=>none
def Yzi(b a:Option V):V->Option V
|.d (.AM s)=>(Sn s.length b a).map λp=>.d (.AM ((s.take p.2).drop p.1))
|_=>none
def Yzh(z:Nat)(e c:Option V):V->Option V
|.d (.AF a b)=>bif decide (z=a) then (Sn b.length e c).map λp=>.d (.AF a ((b.take p.2).drop p.1)) else none
|_=>none
def Zcn(i:Nat):V->Option V
|.BE a=>De (decide (i<a.length)) (a.getD i .any)
|_=>none
def Mu:List V->List (Nat×V)->Option (List V)
|a,[]=>some a
|a,(i,v)::r=>bif decide (i<a.length)&&Sh.beq v.shape (a.getD i .any).shape&&!v.H0 then Mu (a.set i v) r else none
def Zgo(t:Nat)(z:D):V->Option V
|.iface a v=>some (bif decide (a=t) then .BE [v,.d (.bool true)] else .BE [.d z,.d (.bool false)])
|.d (.iface a x)=>some (bif decide (a=t) then .BE [.d x,.d (.bool true)] else .BE [.d z,.d (.bool false)])
|.d .Bo=>some (.BE [.d z,.d (.bool false)])
|_=>none
def Zcl(a:KT)(e:Bool):V->V->Option V
|.d x,.d y=>De (a.Bk x&&a.Bk y) (.d (.bool (D.Bg x y==e)))
|_,_=>none
def Yt3(a z:Nat)(c:Bool):V->V->Option V
|.d (.agg b),.d (.int _ n)=>De (decide (0<=n)&&decide (n<a)&&decide (b.length=a)&&b.all (λx=>decide (x.sz=z)&&(x.isAgg==c))) (.d (b.getD n.toNat default))
|_,_=>none
def D.Fu(x:D)(z:Nat):Bool:=bif x.isAgg then decide (x.sz=z) else Nat.beq 1 z
def D.D6(x:D)(z:Nat):x.Fu z=decide (x.sz=z):=by
 unfold D.Fu;cases c:x.isAgg with
 |true=>rfl
 |false=>
  have a:x.sz=1:=by cases x<;>first|rfl|simp[D.isAgg]at c
  rw[a];simp only[cond_false];by_cases e:1=z
  ·subst e;rfl
  ·rw[DX e];cases b:Nat.beq 1 z with
   |false=>rfl
   |true=>exact(e (CN b)).elim
def V.Fu(v:V)(z:Nat):Bool:=bif v.isAgg then decide (v.size=z) else Nat.beq 1 z
def V.D6(v:V)(z:Nat):v.Fu z=decide (v.size=z):=by
 unfold V.Fu;cases a:v.isAgg with
 |true=>rfl
 |false=>
  have b:v.size=1:=by
   cases v with
   |d x=>cases x<;>first|rfl|simp[V.isAgg]at a
   |agg f=>simp[V.isAgg]at a
   |_=>rfl
  rw[b];simp only[cond_false];by_cases e:1=z
  ·subst e;rfl
  ·rw[DX e];cases c:Nat.beq 1 z with
   |false=>rfl
   |true=>exact(e (CN c)).elim
def V.L3:V->List Nat->Option V
|v,[]=>some v
|.d (.agg b),i::p=>match b[i]? with
 |some x=>V.L3 (.d x) p
 |none=>none
|v,i::p=>match v.BM with
 |some a=>match a[i]? with
  |some k=>V.L3 k p
  |none=>none
 |none=>none
def Tp:∀(p:List Nat)(v:V),v.L3 p=v.at p
|[],v=>by cases v<;>first|rfl|(rename_i x;cases x<;>rfl)
|i::p,v=>by
 cases v with
 |d x=>
  cases x with
  |agg a=>
   simp only[V.L3,V.at,V.BM,List.getElem?_map];cases a[i]? with
   |none=>rfl
   |some y=>simp only[Option.map_some];exact Tp p (.d y)
  |_=>simp[V.L3,V.at,V.BM]
 |agg a=>
  simp only[V.L3,V.at,V.BM];cases a[i]? with
  |none=>rfl
  |some y=>exact Tp p y
 |_=>simp[V.L3,V.at,V.BM]
def XF(a:AB)(id:Nat)(p:List Nat):Option V:=match AA a id with
|some (.box _ t)=>t.L3 p
|_=>none
def qY(a:AB)(id:Nat)(p:List Nat):XF a id p=Cj a id p:=by
 unfold XF Cj;cases AA a id with
 |none=>rfl
 |some o=>cases o<;>simp[Tp]
def gY(a z:Nat)(w:V):Option V->Option V
|some (.d (.agg b))=>De (Nat.beq b.length a&&b.all (λx=>x.Fu z)) w
|o=>SF a z w (Y4 o)
def Yh8(a b:Nat):Nat.beq a b=decide (a=b):=by
 by_cases e:a=b
 ·subst e;simp
 ·rw[DX e];cases c:Nat.beq a b with
  |false=>rfl
  |true=>exact(e (CN c)).elim
def Xxp(a z:Nat)(w:V)(o:Option V):gY a z w o=SF a z w (Y4 o):=by
 unfold gY;split
 next b=>simp only[Y4,V.BM,SF,List.length_map,List.all_map,Yh8,D.D6];congr 2;congr 1;funext x;simp[V.size,V.shape,CC]
 ·rfl
def aW(b:AB)(a z:Nat):V->V->Option V
|.ptr id p,.d (.int _ n)=>bif decide (0<=n)&&decide (n<a) then gY a z (.ptr id (p++[n.toNat])) (XF b id p) else none
|u,v=>YJ b a z u v
def X3l(b:AB)(a z:Nat)(u v:V):aW b a z u v=YJ b a z u v:=by
 unfold aW;split
 ·simp only[YJ,Xxp,qY]
 ·rfl
def Yun(n:Nat)(a:Bool):Option V->Option V
|some v=>De (v.Fu n&&(v.isAgg==a)) v
|none=>none
def kE(b:AB)(n:Nat)(a:Bool):V->Option V
|.ptr id p=>Yun n a (XF b id p)
|.d (.Bd x)=>De (x.Fu n&&((V.d x).isAgg==a)) (.d x)
|v=>P9 b n a v
def sD(a:AB)(n:Nat)(b:Bool)(v:V):kE a n b v=P9 a n b v:=by
 unfold kE;split
 ·simp only[P9,qY];cases Cj a _ _<;>simp[Yun,S3,V.D6]
 ·simp only[P9,D.D6]
 ·rfl
def aE{a:Type}(n:Int)(f:Int->a):a:=match n with
|.ofNat 0=>f (.ofNat 0)
|.ofNat (m+1)=>f (.ofNat (m+1))
|.negSucc 0=>f (.negSucc 0)
|.negSucc (m+1)=>f (.negSucc (m+1))
def X22{a:Type}(n:Int)(f:Int->a):aE n f=f n:=by
 unfold aE;split<;>rfl
def Pm:Option V->Option V
|some (.d (.int k n))=>aE n λn=>some (.d (.int k n))
|o=>o
def rT(o:Option V):Pm o=o:=by
 unfold Pm;split
 ·rw[X22]
 ·rfl
def C.run(g:Xb)(h:AB):C->Option V
|.mv x=>some (x.ev g)
|.pick c a b=>Yy8 (c.ev g) (a.ev g) (b.ev g)
|.not x=>nz (M0 (x.ev g))
|.neg x=>Pm (nz (kI (x.ev g)))
|.GA x=>Pm (nz (N6 (x.ev g)))
|.Bc q x y=>Pm (Zbq q (x.ev g) (y.ev g))
|.Cr e x=>nz (LP e (x.ev g))
|.EG e x=>nz (lr e (x.ev g))
|.G4 x=>Zgq h (x.ev g)
|.Gy k x=>Pm (nz (N8 k (x.ev g)))
|.Fl x i=>Zcs (x.ev g) (i.ev g)
|.DI z x i=>Yt1 h z (x.ev g) (i.ev g)
|.B9 n z x i=>aW h n z (x.ev g) (i.ev g)
|.BW f m x=>Ytk h f m (x.ev g)
|.IX f m n j x=>Zco f m n j (x.ev g).BM
|.ld n j x=>kE h n j (x.ev g)
|.Cw x=>Yyr (x.ev g)
|.C2 x=>nz (Nv (x.ev g))
|.CV x=>Yus h (x.ev g)
|.CY x p o=>Yzi (p.map (A.ev g)) (o.map (A.ev g)) (x.ev g)
|.Ck z x p o=>Yzh z (p.map (A.ev g)) (o.map (A.ev g)) (x.ev g)
|.ext x i=>Zcn i (x.ev g)
|.E0 z Xs=>(Mu (z.map .d) (Xs.map λ(i,x)=>(i,x.ev g))).map V.mk
|.D5 f first l=>some (Ms f (first.map (A.ev g)) (l.map (A.ev g)))
|.G1 t x=>some (JS t (x.ev g))
|.G3 t z x=>Zgo t z (x.ev g)
|.GV r e x y=>Zcl r e (x.ev g) (y.ev g)
|.GR n z j x i=>Yt3 n z j (x.ev g) (i.ev g)
def Xz{b:Bool}{v u:V}(h:De b v=some u):b=true/\v=u:=by
 cases b<;>simp[De]at h⊢;exact h
def J4{v u:V}(h:nz v=some u):v=u/\v≠.any:=by
 cases v<;>simp[nz,V.H0]at h<;>exact⟨h,by simp⟩
def dP{b:Nat}{e d:Option V}{p:Nat×Nat}{K:Nat->Nat->Prop}(h:Sn b e d=some p)(c:K p.1 p.2):Jn b K e d:=by
 unfold Sn at h;split at h<;>simp only[Jn]
 ·cases h;exact c
 ·rw[Cl]at h;split at h
  next a=>cases h;simp at a;exact⟨a,c⟩
  ·cases h
 ·rw[Cl]at h;split at h
  next a=>cases h;simp at a;exact⟨a,c⟩
  ·cases h
 ·rw[Cl]at h;split at h
  next a=>cases h;simp at a;exact⟨⟨a.1.1.1,a.1.1.2⟩,⟨a.1.2,a.2⟩,c⟩
  ·cases h
 ·cases h
def V8{K:List V->Prop}:∀(d:List (Nat×V)) (b:List V) {l:List V},Mu b d=some l->K l->Dz b d K
|[],b,l,h,c=>by simp only[Mu,Bu]at h;subst h;exact c
|(i,v)::r,b,l,h,c=>by
 simp only[Mu]at h;rw[Cl]at h;split at h
 next a=>simp only[As,Bs,El]at a;refine⟨a.1.1,Sh.beq_eq _ _ a.1.2,λe=>?_,V8 r _ h c⟩;subst e;simp[V.H0]at a
 ·cases h
def C.A5{j:Xb}{s:AB}{c:C}{v:V}{K:V->Prop}(h:c.run j s=some v)(g:K v):c.wp j s K:=by
 cases c<;>simp only[C.run,sD,X3l,rT]at h<;>simp only[C.wp]
 case mv=>cases h;exact g
 case D5=>cases h;exact g
 case G1=>cases h;exact g
 case E0 z Xs=>
  rw[D9]at h;obtain⟨l,f,rfl⟩:=h;exact V8 _ _ f g
 case pick x y z=>
  generalize A.ev j x=a at h⊢;generalize A.ev j y=b at h⊢;generalize A.ev j z=c at h⊢;unfold Yy8 at h;split at h
  ·cases h;rename_i t _ _;cases t<;>exact g
  ·cases h;rename_i t w;cases t
   ·simp only[cond_false]at g;unfold IE;split<;>simp_all
   ·simp only[cond_true]at g;unfold IE;split<;>simp_all
  ·cases h
 case Bc op x y=>
  generalize A.ev j x=a at h⊢;generalize A.ev j y=b at h⊢;unfold Zbq at h;split at h
  ·simp only[Hq];cases op<;>simp only[Zcu]at h<;>obtain⟨f,rfl⟩:=Xz h<;>simp only[As,Bs]at f<;>simp only[Ht]<;>first|exact⟨f,g⟩|exact⟨f.1,f.2,g⟩
  ·simp only[Hq];cases op<;>simp only[Zgm]at h<;>first|(obtain⟨f,rfl⟩:=Xz h;exact⟨Gk f,g⟩)|(cases h;exact g)|cases h
  ·cases h
 case not x=>obtain⟨rfl,f⟩:=J4 h;generalize A.ev j x=a at f g⊢;unfold M0 at f g;unfold JU;split<;>simp_all
 case GA x=>obtain⟨rfl,f⟩:=J4 h;generalize A.ev j x=a at f g⊢;unfold N6 at f g;unfold Kv;split<;>simp_all
 case neg x=>obtain⟨rfl,f⟩:=J4 h;generalize A.ev j x=a at f g⊢;unfold kI at f g;unfold OF;split<;>simp_all
 case Cr x=>obtain⟨rfl,f⟩:=J4 h;generalize A.ev j x=a at f g⊢;unfold LP at f g;unfold Ud;split<;>simp_all
 case EG x=>obtain⟨rfl,f⟩:=J4 h;generalize A.ev j x=a at f g⊢;unfold lr at f g;unfold Np;split<;>simp_all
 case Gy x=>obtain⟨rfl,f⟩:=J4 h;generalize A.ev j x=a at f g⊢;unfold N8 at f g;unfold JK;split<;>simp_all
 case C2 x=>obtain⟨rfl,f⟩:=J4 h;generalize A.ev j x=a at f g⊢;unfold Nv at f g;unfold KH;split<;>simp_all
 case G4 x=>
  generalize A.ev j x=a at h⊢;unfold Zgq at h;split at h
  ·unfold Yz8 at h;simp only[IS];split at h
   next E F u n=>obtain⟨f,rfl⟩:=Xz h;simp at f;exact⟨⟨_,_,_,n,f.1.1,f.1.2,f.2⟩,g⟩
   ·cases h
  ·cases h;exact g
  ·cases h
 case Fl x y=>
  generalize A.ev j x=a at h⊢;generalize A.ev j y=b at h⊢;unfold Zcs at h;split at h
  ·obtain⟨f,rfl⟩:=Xz h;simp only[As,Bs]at f;exact⟨f,g⟩
  ·cases h
 case DI x y=>
  generalize A.ev j x=a at h⊢;generalize A.ev j y=b at h⊢;unfold Yt1 at h;split at h
  ·obtain⟨f,rfl⟩:=Xz h;simp only[As,Bs]at f;exact⟨f.1.1,⟨f.1.2,f.2⟩,g⟩
  ·obtain⟨f,rfl⟩:=Xz h;simp only[As,Bs]at f;refine⟨f.1,?_,g⟩;have k:=f.2;generalize W2 _ _ _=o at k⊢;cases o with
   |none=>simp[l9]at k
   |some v=>
    simp only[l9]at k;simp only[Mn];exact Gk k
  ·obtain⟨f,rfl⟩:=Xz h;simp only[As,Bs]at f;refine⟨f.1,?_,g⟩;have k:=f.2;generalize Y4 _=o at k⊢;cases o with
   |none=>simp[l8]at k
   |some r=>
    simp only[l8,As,Bs,DQ]at k;exact⟨r,rfl,k⟩
  ·cases h
 case GV x y=>
  generalize A.ev j x=a at h⊢;generalize A.ev j y=b at h⊢;unfold Zcl at h;split at h
  ·obtain⟨f,rfl⟩:=Xz h;simp only[As]at f;exact⟨f.1,f.2,g⟩
  ·cases h
 case GR x y=>
  generalize A.ev j x=a at h⊢;generalize A.ev j y=b at h⊢;unfold Yt3 at h;split at h
  ·obtain⟨f,rfl⟩:=Xz h;simp only[As,Bs,DQ,CT]at f;exact⟨⟨f.1.1.1,f.1.1.2⟩,f.1.2,f.2,g⟩
  ·cases h
 case B9 x y=>
  generalize A.ev j x=a at h⊢;generalize A.ev j y=b at h⊢;unfold YJ at h;split at h
  ·rw[Cl]at h;split at h
   ·rename_i q;unfold SF at h;split at h
    next r m=>obtain⟨f,rfl⟩:=Xz h;simp only[As,Bs,DQ]at f q;exact⟨q,⟨r,m,f.1,f.2⟩,g⟩
    ·cases h
   ·cases h
  ·obtain⟨f,rfl⟩:=Xz h;simp only[As,Bs,DQ]at f;exact⟨⟨f.1.1.1,f.1.1.2⟩,f.1.2,f.2,g⟩
  ·cases h
 case BW x=>
  generalize A.ev j x=a at h⊢;unfold Ytk at h;split at h
  ·unfold Yet at h;split at h
   next r m=>obtain⟨f,rfl⟩:=Xz h;simp only[As,Bs]at f;simp only[Vk,m];exact⟨f.1,f.2,g⟩
   ·cases h
  ·obtain⟨f,rfl⟩:=Xz h;simp only[As,Bs]at f;exact⟨f.1,f.2,g⟩
  ·cases h;exact g
  ·cases h
 case IX x=>
  generalize (A.ev j x).BM=a at h⊢;unfold Zco at h;split at h
  ·obtain⟨f,rfl⟩:=Xz h;simp only[As,Bs,CT]at f;exact⟨f.1.1.1,f.1.1.2,f.1.2,f.2,g⟩
  ·cases h
 case ld x=>
  generalize A.ev j x=a at h⊢;unfold P9 at h;split at h
  ·unfold S3 at h;split at h
   next v m=>obtain⟨f,rfl⟩:=Xz h;simp only[As,Bs,CT]at f;simp only[D4,m];exact⟨f.1,f.2,g⟩
   ·cases h
  ·obtain⟨f,rfl⟩:=Xz h;simp only[As,Bs,CT]at f;exact⟨f.1,f.2,g⟩
  ·unfold S3 at h;split at h
   next v m=>obtain⟨f,rfl⟩:=Xz h;simp only[As,Bs,CT]at f;simp only[D4,m];exact⟨f.1,f.2,g⟩
   ·cases h
  ·cases h
 case Cw x=>
  generalize A.ev j x=a at h⊢;unfold Yyr at h;split at h<;>cases h<;>exact g
 case CV x=>
  generalize A.ev j x=a at h⊢;unfold Yus at h;split at h
  ·cases h;exact g
  ·cases h;exact g
  ·unfold Ye4 at h;split at h
   next E z u n=>obtain⟨f,rfl⟩:=Xz h;exact⟨.inl ⟨_,_,_,n,Gk f⟩,g⟩
   next E z u n=>obtain⟨f,rfl⟩:=Xz h;exact⟨.inr ⟨_,_,_,n,Gk f⟩,g⟩
   ·cases h
  ·unfold Ye3 at h;split at h
   next E t n=>cases h;exact⟨⟨_,_,n⟩,g⟩
   ·cases h
  ·cases h
 case CY x lo hi=>
  generalize A.ev j x=a at h⊢;unfold Yzi at h;split at h
  ·rw[D9]at h;obtain⟨p,f,rfl⟩:=h;exact dP (K:=λl h=>K (.d (.AM ((List.take h _).drop l)))) f g
  ·cases h
 case Ck x lo hi=>
  generalize A.ev j x=a at h⊢;unfold Yzh at h;split at h
  ·rw[Cl]at h;split at h
   next q=>rw[D9]at h;obtain⟨p,f,rfl⟩:=h;exact⟨Gk q,dP (K:=λl h=>K (.d (.AF _ ((List.take h _).drop l)))) f g⟩
   ·cases h
  ·cases h
 case ext x i=>
  generalize A.ev j x=a at h⊢;unfold Zcn at h;split at h
  ·obtain⟨f,rfl⟩:=Xz h;exact⟨Gk f,g⟩
  ·cases h
 case G3 t z x=>
  generalize A.ev j x=a at h⊢;unfold Zgo at h;split at h
  ·cases h;refine⟨λe=>?_,λe=>?_⟩<;>simp[e]at g<;>exact g
  ·cases h;refine⟨λe=>?_,λe=>?_⟩<;>simp[e]at g<;>exact g
  ·cases h;exact g
  ·cases h
inductive Rr where
|ok (v:V) (ob:AB)
|pn (v:V) (ob:AB)
|no
def R3:List D->Option (List UInt8)
|[]=>some []
|.int .u8 n::r=>bif decide (0<=n)&&decide (n<256) then (R3 r).map λs=>UInt8.ofNat n.toNat::s else none
|_=>none
def vU:∀{l:List D}{s:List UInt8},R3 l=some s->l=A2 s
|[],s,h=>by simp only[R3,Bu]at h;subst h;rfl
|x::r,s,h=>by
 unfold R3 at h;split at h
 next e=>cases e
 ·rename_i n c e;cases e;rw[Cl]at h;split at h
  ·rename_i b;simp only[As,Bs]at b;rw[D9]at h;obtain⟨t,a,rfl⟩:=h;rw[vU a];have:((UInt8.ofNat n.toNat).toNat:Int)=n:=by rw[UInt8.toNat_ofNat'];omega
   simp only[A2,this]
  ·cases h
 ·cases h
def Zgl(b:AB)(id:Nat)(p:List Nat)(n E:Nat)(v t:V):Option V->Rr
|some a=>bif Sh.beq v.shape a.shape&&decide (a.size=n)&&v.Eu then (match t.set p v with|some c=>.ok .undef (AG b id (.box E c))|none=>.no) else .no
|none=>.no
def Zgk(a:AB)(id:Nat)(p:List Nat)(n:Nat)(v:V):Option Ob->Rr
|some (.box E t)=>Zgl a id p n E v t (t.at p)
|_=>.no
def Yzn(b:AB)(id i n:Nat)(o:Ob)(v d:V)(p:List Nat):Option V->Rr
|some a=>bif Sh.beq v.shape a.shape&&decide (a.size=n)&&v.Eu then (match d.set p v with|some c=>.ok .undef (AG b id (Io o i c))|none=>.no) else .no
|none=>.no
def Yzo(b:AB)(id i n:Nat)(o:Ob)(v:V)(z f:Nat)(p:List Nat):Option V->Rr
|some a=>bif decide (z=a.size)&&decide (f=a.shape.off p) then Yzn b id i n o v a p (a.at p) else .no
|none=>.no
def Yzm(a:AB)(id m z i f:Nat)(p:List Nat)(n:Nat)(v:V):Option Ob->Rr
|some o=>Yzo a id i n o v z f p (W2 m i (some o))
|none=>.no
def stR(a:AB)(n:Nat)(v:V):V->Rr
|.ptr id p=>Zgk a id p n v (AA a id)
|.ep id m z i f p=>Yzm a id m z i f p n v (AA a id)
|_=>.no
def V.HN(v:V):Bool:=!v.isAgg
def qT{v:V}(h:v.HN=true):v.shape=.AX:=by
 cases v with
 |d x=>cases x<;>first|rfl|simp[V.HN,V.isAgg]at h
 |agg a=>simp[V.HN,V.isAgg]at h
 |_=>rfl
def dJ(a b:V):Bool:=bif a.HN&&b.HN then true else Sh.beq a.shape b.shape
def X7g{a b:V}(h:dJ a b=true):a.shape=b.shape:=by
 unfold dJ at h;cases c:(a.HN&&b.HN) with
 |true=>
  simp only[As]at c;rw[qT c.1,qT c.2]
 |false=>rw[c]at h;exact Sh.beq_eq _ _ h
def V.Gc:V->List Nat->V->Option V
|_,[],x=>some x
|.d (.agg a),i::p,x=>match a[i]? with
 |some y=>match V.Gc (.d y) p x with
  |some (.d z)=>some (.d (.agg (a.set i z)))
  |some k=>some (V.mk ((a.map .d).set i k))
  |none=>none
 |none=>none
|v,i::p,x=>match v.BM with
 |some b=>match b[i]? with
  |some k=>match V.Gc k p x with
   |some c=>some (V.mk (b.set i c))
   |none=>none
  |none=>none
 |none=>none
def Xz8:∀(l:List D),Bt (l.map .d)=some l
|[]=>rfl
|x::r=>by simp only[Cg,Bt,Xz8 r]
def ZO:∀(p:List Nat)(v x:V),v.Gc p x=v.set p x
|[],v,x=>by cases v<;>first|rfl|(rename_i y;cases y<;>rfl)
|i::p,v,x=>by
 cases v with
 |d y=>
  cases y with
  |agg a=>
   simp only[V.Gc,V.set,V.BM,List.getElem?_map];cases a[i]? with
   |none=>rfl
   |some y=>
    simp only[Option.map_some,ZO p (.d y) x];cases V.set (.d y) p x with
    |none=>rfl
    |some k=>
     cases k with
     |d z=>simp only[<-Fg,V.mk,Xz8]
     |_=>rfl
  |_=>simp[V.Gc,V.set,V.BM]
 |agg a=>
  simp only[V.Gc,V.set,V.BM];cases a[i]? with
  |none=>rfl
  |some y=>simp only[ZO p y x];cases V.set y p x<;>rfl
 |_=>simp[V.Gc,V.set,V.BM]
def Yzq(b:AB)(id:Nat)(p:List Nat)(n E:Nat)(v t:V):Option V->Rr
|some a=>bif dJ v a&&a.Fu n&&v.Eu then (match t.Gc p v with|some c=>.ok .undef (AG b id (.box E c))|none=>.no) else .no
|none=>.no
def Yzp(a:AB)(id:Nat)(p:List Nat)(n:Nat)(v:V):Option Ob->Rr
|some (.box E t)=>Yzq a id p n E v t (t.L3 p)
|_=>.no
def Zgj(a:AB)(n:Nat)(v:V):V->Rr
|.ptr id p=>Yzp a id p n v (AA a id)
|u=>stR a n v u
def Zgi(a:Nat):V->Option (List D)
|.d (.AF z b)=>bif decide (z=a) then some b else none
|.d .AT=>some []
|_=>none
def kv(id E d B n:Nat)(f:AB)(c:List D):Option Ob->Rr
|some (.A9 e b a)=>bif decide (e=E)&&decide (b=d)&&decide (n=a.length)&&decide ((2*(a.length+c.length)+192)*B<=281474976710656) then .ok (.sl id (a.length+c.length)) (AG f id (.A9 E d (a++c))) else .no
|_=>.no
def XE(E c B:Nat)(a:AB)(b:List D):V->Rr
|.sl id n=>kv id E c B n a b (AA a id)
|.d .AT=>bif decide ((2*b.length+192)*B<=281474976710656) then .ok (.sl (fresh a) b.length) ((fresh a,.A9 E c b)::a) else .no
|_=>.no
def Ygt(b n:Nat):Option Ob->Option (List V)
|some (.Ao _ z a)=>bif decide (z=b)&&decide (n=a.length)&&G8 a then some a else none
|some (.A9 _ z a)=>bif decide (z=b)&&decide (n=a.length) then some (a.map .d) else none
|_=>none
def Yzl(a:Nat)(b:AB):V->Option (List V)
|.d (.AF z c)=>bif decide (z=a) then some (c.map .d) else none
|.d .AT=>some []
|.sl id n=>Ygt a n (AA b id)
|_=>none
def Ysb(id E e B n:Nat)(g:AB)(c:List V):Option Ob->Rr
|some (.Ao f b a)=>bif decide (f=E)&&decide (b=e)&&decide (n=a.length)&&decide ((2*(a.length+c.length)+192)*B<=281474976710656) then .ok (.sl id (a.length+c.length)) (AG g id (.Ao E e (a++c))) else .no
|some (.A9 f b a)=>bif decide (f=E)&&decide (b=e)&&decide (n=a.length)&&decide ((2*(a.length+c.length)+192)*B<=281474976710656) then .ok (.sl id (a.length+c.length)) (AG g id (.Ao E e (a.map .d++c))) else .no
|_=>.no
def Zbp(E c B:Nat)(a:AB)(b:List V):V->Rr
|.sl id n=>Ysb id E c B n a b (AA a id)
|.d .AT=>bif decide ((2*b.length+192)*B<=281474976710656) then .ok (.sl (fresh a) b.length) ((fresh a,.Ao E c b)::a) else .no
|_=>.no
def JV(o:Option V)(a:AB):Rr:=match o with
|some v=>.ok v a
|none=>.no
def Zge:V->Option V
|.d (.AM s)=>some (.d (.AF 1 (A2 s)))
|_=>none
def Yzk:V->Option (List D)
|.d (.AM s)=>some (A2 s)
|_=>none
def S0:Option (D×AB)->Rr
|some (d,a)=>.ok (.d d) a
|none=>.no
def Yuo(n:Nat)(a:Bool)(b:AB):Option V->Rr
|some v=>bif decide (v.size=n)&&(v.isAgg==a) then S0 (DU b v) else .no
|none=>.no
def Zc0(n:Nat)(b:Bool)(a:AB):V->Rr
|.ptr id p=>Yuo n b a (Cj a id p)
|_=>.no
def Yup(a:AB)(id:Nat)(p:List Nat)(x:D):Option Ob->Rr
|some (.box E t)=>match t.set p (.d x) with
 |some b=>.ok (.d x) (AG a id (.box E b))
 |none=>.no
|_=>.no
def Yuq(v:V)(id:Nat)(p:List Nat):Option (D×AB)->Rr
|some (x,a)=>bif Sh.beq x.shape v.shape then Yup a id p x (AA a id) else .no
|none=>.no
def Yur(n:Nat)(a:Bool)(b:AB)(id:Nat)(p:List Nat):Option V->Rr
|some v=>bif decide (v.size=n)&&(v.isAgg==a) then Yuq v id p (Ct 40000 b v) else .no
|none=>.no
def Zc1(n:Nat)(b:Bool)(a:AB):V->Rr
|.ptr id p=>Yur n b a id p (Cj a id p)
|_=>.no
def Yzg(id:Nat)(p:List Nat)(n z:Nat)(c b:Option V):Option (List V)->Option V
|some a=>bif decide (a.length=n)&&a.all (λk=>decide (k.size=z)) then (Sn n c b).map λq=>.bs id p q.1 (q.2-q.1) else none
|none=>none
def Zgf(c:AB)(n z:Nat)(b a:Option V):V->Option V
|.ptr id p=>Yzg id p n z b a (Y4 (Cj c id p))
|_=>none
def Zbs(e:AB)(id E:Nat)(t:V)(p:List Nat)(b n z:Nat)(c:List D)(r:V):Option V->Rr
|some (.d (.agg a))=>bif decide (b+n<=a.length)&&a.all (λx=>decide (x.sz=z))&&Sh.beq (D.agg (Ho b a c)).shape (D.agg a).shape then (match t.set p (.d (.agg (Ho b a c))) with|some f=>.ok r (AG e id (.box E f))|none=>.no) else .no
|_=>.no
def XG(b:AB)(id:Nat)(p:List Nat)(a n z:Nat)(c:List D)(r:V):Option Ob->Rr
|some (.box E t)=>Zbs b id E t p a n z c r (t.at p)
|_=>.no
def Zb6(z:Nat)(a:AB):V->V->Rr
|.bs id p c n,.d (.AF e b)=>bif decide (e=z) then XG a id p c n z (b.take n) (.d (.int .i64 (min b.length n:Nat))) (AA a id) else .no
|_,_=>.no
def Yud:Option Ob->Bool
|some (.box _ _)=>true
|_=>false
def Zbu(b:D)(z:Nat)(a:AB):V->Rr
|.bs id p c n=>bif Nat.beq n 0 then (bif Yud (AA a id) then .ok (.BE []) a else .no) else bif decide (b.sz=z)&&decide (z=1) then XG a id p c n z (List.replicate n b) (.BE []) (AA a id) else .no
|_=>.no
def Zcr(n z:Nat):D->V->Option V
|.agg a,.d (.int _ m)=>De (decide (0<=m)&&decide (m<n)&&decide (a.length=n)&&a.all (λx=>decide (x.sz=z))) (.d (.Bd (a.getD m.toNat default)))
|_,_=>none
def V.Fm:V->Bool
|.d .AT=>true
|_=>false
def Ysc:Option V->Bool
|some v=>v.Fm
|none=>false
def Yxa(a:AB)(id:Nat)(p:List Nat)(E c:Nat)(y:V):Option Ob->Rr
|some (.box b t)=>bif Ysc (t.at p) then (match t.set p (.sl (fresh a) 0) with|some d=>.ok y ((fresh a,.A9 E c [])::AG a id (.box b d))|none=>.no) else .no
|_=>.no
def XN(a:AB)(E b:Nat)(p:List Nat)(y:V):V->Rr
|.ptr id q=>Yxa a id (q++p) E b y (AA a id)
|_=>.no
def XO(y x:V):List (Nat×Nat×List Nat)->AB->Rr
|[],a=>.ok y a
|e::l,a=>match XN a e.1 e.2.1 e.2.2 y x with
 |.ok _ b=>XO y x l b
 |_=>.no
def Ysw(id n:Nat)(c:AB):Option Ob->Rr
|some (.A9 _ b a)=>bif decide (b≠0)&&decide (n=a.length)&&!a.isEmpty then .ok (.d (.AF b a)) (AG c id .AY) else .no
|_=>.no
def Zb7(a:AB):V->Rr
|.sl id n=>Ysw id n a (AA a id)
|_=>.no
def Yg9(id n:Nat)(m:Int)(E:Nat)(c:AB):Option Ob->Rr
|some (.A9 b e a)=>bif decide (b=E)&&decide (e=1)&&decide (n=a.length)&&decide (m=n)&&decide (n<=9223372036854775807)&&!a.isEmpty then (match R3 a with|some s=>.ok (.d (.AM s)) (AG c id .AY)|none=>.no) else .no
|_=>.no
def Y0a(E:Nat)(a:AB):V->V->Rr
|.sd id n,.d (.int .i64 m)=>Yg9 id n m E a (AA a id)
|.d .B1,.d (.int .i64 m)=>bif decide (m=0) then .ok (.d (.AM [])) a else .no
|_,_=>.no
def Ygm(a:AB):V->Rr
|.iface t v=>.pn (.iface t v) a
|.d (.iface t v)=>.pn (.d (.iface t v)) a
|_=>.no
structure C1 where
 call:Nat->List V->AB->Option (A7×AB)
 pc:Nat->List V->AB->Option V
 ca:Nat->Bool
 gl:Nat->Option D
 yd:Nat->List V->AB->Option (A7×AB):=λ_ _ _=>none
 lt:Nat->Option (List Nat×S×S):=λ_=>none
 xc:Nat->List V->AB->Option (V×AB):=λ_ _ _=>none
structure C1.ok(P:Az)(R:C1):Prop where
 call:∀f vs ob o b,R.call f vs ob=some (o,b)->AV P f vs ob λo' b'=>o'=o/\b'=b
 pc:∀f vs ob v,R.pc f vs ob=some v->AU P f vs ob λv'=>v'=v
 ca:∀f,R.ca f=true->Xd P.p f=true
 gl:∀g x,R.gl g=some x->Bj P g x
 yd:∀id vs ob o b,R.yd id vs ob=some (o,b)->CL P id vs ob λo' b'=>o'=o/\b'=b
 xc:∀f vs ob v b,R.xc f vs ob=some (v,b)->CD P f vs ob λv' b'=>v'=v/\b'=b
def Lv:Option (A7×AB)->Rr
|some (.ret v,a)=>.ok v a
|some (.panic v,a)=>.pn v a
|none=>.no
def Yuf:Option Ob->Bool
|some (.lp _ _ _)=>true
|_=>false
def Yek(R:C1)(a:List V)(b:AB):V->Rr
|.fn f e c=>bif R.ca f then Lv (R.call f (e++a++c) b) else .no
|.d (.fn f e c)=>bif R.ca f then Lv (R.call f (e.map .d++a++c.map .d) b) else .no
|.hd true id=>bif Yuf (AA b id) then Lv (R.yd id a b) else .no
|_=>.no
def Zgd(a:AB):V->Option Ob->Rr
|.mp id,some (.map b)=>.ok (.hd false (fresh a)) ((fresh a,.it (some id) b.length [])::a)
|.d .B0,_=>.ok (.hd false (fresh a)) ((fresh a,.it none 0 [])::a)
|_,_=>.no
def oH(b:AB)(id j n:Nat)(seen:List Nat)(a:List (D×V)):List Nat->Rr
|[]=>.ok (.BE [.d (.bool false)]) b
|[i]=>.ok (.BE [.d (.bool true),.d (a.getD i default).1,(a.getD i default).2]) (AG b id (.it (some j) n (seen++[i])))
|_=>.no
def Yyx(b:AB)(id j n:Nat)(seen:List Nat):Option Ob->Rr
|some (.map a)=>bif Nat.beq a.length n then oH b id j n seen a ((List.range n).filter λi=>!seen.contains i) else .no
|_=>.no
def Yyy(a:AB)(id:Nat):Option Ob->Rr
|some (.it none _ _)=>.ok (.BE [.d (.bool false)]) a
|some (.it (some j) n seen)=>Yyx a id j n seen (AA a j)
|_=>.no
def Zf0(a:AB):V->Rr
|.hd false id=>Yyy a id (AA a id)
|_=>.no
def Ytb(i n:Nat):Option Ob->Option V
|some (.map a)=>De (decide (i<n)&&Nat.beq a.length n) (.BE [.d (a.getD i default).1,(a.getD i default).2])
|_=>none
def Ytc(a:AB):Option Ob->Option V
|some (.it (some j) n (x::seen))=>Ytb ((x::seen).getLastD 0) n (AA a j)
|_=>none
def Zck(a:AB):V->Option V
|.hd false id=>Ytc a (AA a id)
|_=>none
def Ye5:Option Ob->Option V
|some (.map a)=>some (.d (.int .i64 a.length))
|_=>none
def Yut(a:AB):V->Option V
|.mp id=>Ye5 (AA a id)
|.d .B0=>some (.d (.int .i64 0))
|_=>none
def Yug(e:Bool):Option Ob->Option V
|some (.map _)=>some (.d (.bool !e))
|_=>none
def Yuh(e:Bool)(n:Nat):Option Ob->Option V
|some (.A9 _ _ a)=>De (Nat.beq n a.length&&!a.isEmpty) (.d (.bool !e))
|some (.Ao _ _ a)=>De (Nat.beq n a.length&&!a.isEmpty) (.d (.bool !e))
|_=>none
def Zcz(a:AB)(e:Bool):Bool->V->Option V
|true,.mp id=>Yug e (AA a id)
|true,.d .B0=>some (.d (.bool e))
|false,.d .AT=>some (.d (.bool e))
|false,.d (.AF _ b)=>De (!b.isEmpty) (.d (.bool !e))
|false,.sl id n=>Yuh e n (AA a id)
|_,_=>none
def Yzd(a:AB)(v:V):Option (Nat×Nat×Nat×Bool)->Option V
|none=>some v
|some (c,d,n,b)=>match (C.BW c d (.t 0)).run [(0,v)] a with
 |some u=>(C.ld n b (.t 0)).run [(0,u)] a
 |none=>none
def Zcw(R:C1)(t f:Nat)(c:Option (Nat×Nat×Nat×Bool))(a:List V)(b:AB):V->Rr
|.iface d (.ptr id p)=>bif Nat.beq d t&&R.ca f then (match Yzd b (.ptr id p) c with|some r=>Lv (R.call f (r::a) b)|none=>.no) else .no
|_=>.no
def Zeu(E b B:Nat)(z:D)(a:AB):V->Rr
|.d (.int .i64 n)=>bif decide (0<=n)&&decide (n*B<=281474976710656) then .ok (.sl (fresh a) n.toNat) ((fresh a,.A9 E b (List.replicate n.toNat z))::a) else .no
|_=>.no
def Yz7(id n z:Nat)(h:Int)(a:AB):Option Ob->Rr
|some (.A9 E c b)=>bif Nat.beq c z&&Nat.beq n b.length&&!b.isEmpty&&decide (0<=h/\h<=n) then .ok (.sl (fresh a) h.toNat) ((fresh a,.A9 E c (b.take h.toNat))::AG a id .AY) else .no
|_=>.no
def Zgp(z:Nat)(a:AB):V->V->Rr
|.sl id n,.d (.int .i64 h)=>Yz7 id n z h a (AA a id)
|_,_=>.no
def Ty(l:Option (List V)):Option (List D):=match l with
|some a=>Bt a
|none=>none
def YL(b k:D)(a:List (D×V)):Bool:=Dy b k&&a.all λe=>Dy k e.1
def zZ{b k:D}{a:List (D×V)}(h:YL b k a=true):U7 b k a:=by
 simp only[YL,As,DQ]at h;exact h
def Yu0(b z:D)(c:Bool)(k:D):Option Ob->Option V
|some (.map a)=>De (YL b k a) (Ex z c (Yh k a))
|_=>none
def Zc6(c:AB)(a z:D)(b:Bool):V->V->Option V
|.mp id,.d k=>Yu0 a z b k (AA c id)
|.d .B0,.d k=>De (Dy a k) (Ex z b none)
|_,_=>none
def Yfb(c:AB)(id:Nat)(b k:D)(v:V):Option Ob->Rr
|some (.map a)=>bif YL b k a&&v.Eu then .ok .undef (AG c id (.map (EL k v a))) else .no
|_=>.no
def Yw9(a:AB)(b:D)(v:V):V->V->Rr
|.mp id,.d k=>Yfb a id b k v (AA a id)
|_,_=>.no
def Yzj(b:AB)(id n z:Nat):Option V->Rr
|some (.d (.agg a))=>bif decide (a.length=n)&&a.all (λx=>decide (x.sz=z)) then .ok (.d (.AF z a)) (AG b id .AY) else .no
|_=>.no
def Zgg(a:AB)(n z:Nat):V->Rr
|.ptr id p=>Yzj a id n z (Cj a id p)
|_=>.no
def Yez:V->Bool
|.d (.int _ _)=>true
|_=>false
def Zet(a:Xb):Option A->Bool
|none=>true
|some x=>Yez (x.ev a)
def I.run(R:C1)(j:Xb)(a:AB):I->Rr
|.c x=>JV (x.run j a) a
|.box E x=>bif (x.ev j).Eu then .ok (.ptr (fresh a) []) ((fresh a,.box E (x.ev j))::a) else .no
|.alloc E z=>bif (V.d z).Eu then .ok (.ptr (fresh a) []) ((fresh a,.box E (.d z))::a) else .no
|.GU q z Xs=>match Ty (Mu (z.map .d) (Xs.map λ(i,x)=>(i,x.ev j))) with
 |some l=>.ok (.d (.AF q l)) a
 |none=>.no
|.GS E q z Xs=>match Ty (Mu (z.map .d) (Xs.map λ(i,x)=>(i,x.ev j))) with
 |some l=>.ok (.sl (fresh a) l.length) ((fresh a,.A9 E q l)::a)
 |none=>.no
|.st n x v=>Zgj a n (v.ev j) (x.ev j)
|.I0 E q B x y=>match Zgi q (y.ev j) with
 |some u=>XE E q B a u (x.ev j)
 |none=>.no
|.ER E B x y=>match Yzk (y.ev j) with
 |some u=>XE E 1 B a u (x.ev j)
 |none=>.no
|.call f o=>Lv (R.call f (o.map (A.ev j)) a)
|.BX f o=>JV (R.pc f (o.map (A.ev j)) a) a
|.Bx f o=>match R.xc f (o.map (A.ev j)) a with
 |some (v,b)=>.ok v b
 |none=>.no
|.Cq x o=>Yek R (o.map (A.ev j)) a (x.ev j)
|.panic x=>Ygm a (x.ev j)
|.HQ x=>JV (Zge (x.ev j)) a
|.ET E q x=>bif (x.ev j).Fm then .ok (.sl (fresh a) 0) ((fresh a,.A9 E q [])::a) else .no
|.Kb x=>S0 (DU a (x.ev j))
|.IZ n s x=>Zc0 n s a (x.ev j)
|.H3 E q y x p=>XN a E q p (y.ev j) (x.ev j)
|.I5 y x l=>XO (y.ev j) (x.ev j) l a
|.Hy x=>Zb7 a (x.ev j)
|.EY E x y=>Y0a E a (x.ev j) (y.ev j)
|.HP r=>bif Zet j r then .ok (.mp (fresh a)) ((fresh a,.map [])::a) else .no
|.Ib w z K m k=>JV (Zc6 a w z K (m.ev j) (k.ev j)) a
|.C7 w m k v=>Yw9 a w (v.ev j) (m.ev j) (k.ev j)
|.KS g n s x=>match R.gl g with
 |some y=>bif decide (y.sz=n)&&((V.d y).isAgg==s)&&D.Bg x y then .ok (.d x) a else .no
 |none=>.no
|.Ie n z x=>Zgg a n z (x.ev j)
|.Gx E q z Xs=>match Mu (z.map .d) (Xs.map λ(i,x)=>(i,x.ev j)) with
 |some F=>.ok (.sl (fresh a) F.length) ((fresh a,.Ao E q F)::a)
 |none=>.no
|.F7 E q B x y=>match Yzl q a (y.ev j) with
 |some u=>Zbp E q B a u (x.ev j)
 |none=>.no
|.gv x=>S0 (Ct 40000 a (x.ev j))
|.Ia n s x=>Zc1 n s a (x.ev j)
|.HR n z x J H=>JV (Zgf a n z (J.map (A.ev j)) (H.map (A.ev j)) (x.ev j)) a
|.I1 z x y=>Zb6 z a (x.ev j) (y.ev j)
|.IV L z x=>Zbu L z a (x.ev j)
|.Hz g n z x i=>match R.gl g with
 |some y=>bif D.Bg x y then JV (Zcr n z x (i.ev j)) a else .no
 |none=>.no
|.Ic x=>Zgd a (x.ev j) (AA a (My (x.ev j)))
|.I6 x=>Zf0 a (x.ev j)
|.IW x=>JV (Zck a (x.ev j)) a
|.EI x=>JV (Yut a (x.ev j)) a
|.HO e m x=>JV (Zcz a e m (x.ev j)) a
|.Dp _ t f G x o=>Zcw R t f G (o.map (A.ev j)) a (x.ev j)
|.I4 E q B z l=>Zeu E q B z a (l.ev j)
|.I9 z x h=>Zgp z a (x.ev j) (h.ev j)
def Rr.to(K b:V->AB->Prop):Rr->Prop
|.ok v a=>K v a
|.pn v a=>b v a
|.no=>False
section
variable {P:Az} {R:C1} {sl:Xb} {ob:AB} {K Pn:V->AB->Prop}
def Uv{o:Option V}(h:(JV o ob).to K Pn):∃v,o=some v/\K v ob:=by
 unfold JV at h;split at h
 ·exact⟨_,rfl,h⟩
 ·cases h
def xK{v:V}(h:v.Fm=true):v=.d .AT:=by
 unfold V.Fm at h;split at h
 ·rfl
 ·cases h
def VU(g:R.ok P){f:Nat}{a:List V}(h:(Lv (R.call f a ob)).to K Pn):AV P f a ob (Ef K Pn):=by
 unfold Lv at h;split at h
 next v b e=>exact(g.call f a ob _ _ e).mono λo b ⟨c,d⟩=>by subst c;subst d;exact h
 next v b e=>exact(g.call f a ob _ _ e).mono λo b ⟨c,d⟩=>by subst c;subst d;exact h
 ·cases h
def Y0c(f:R.ok P){id:Nat}{a:List V}(h:(Lv (R.yd id a ob)).to K Pn):CL P id a ob (Ef K Pn):=by
 unfold Lv at h;split at h
 next v b e=>exact(f.yd id a ob _ _ e).mono λo b ⟨c,d⟩=>by subst c;subst d;exact h
 next v b e=>exact(f.yd id a ob _ _ e).mono λo b ⟨c,d⟩=>by subst c;subst d;exact h
 ·cases h
def gX{o:Option (D×AB)}(h:(S0 o).to K Pn):Gs K o:=by
 unfold S0 at h;split at h
 ·exact h
 ·cases h
def Xv{b:Bool}{x:Rr}(h:(bif b then x else .no).to K Pn):b=true/\x.to K Pn:=by
 cases b
 ·cases h
 ·exact⟨rfl,h⟩
def qZ{id d n z:Nat}{p:List Nat}{e:List D}{r:V}{o:Option Ob}(h:(XG ob id p d n z e r o).to K Pn):Hr ob id p d n z e r K o:=by
 unfold XG at h;split at h
 ·unfold Zbs at h;split at h
  ·rename_i i c;obtain⟨a,b⟩:=Xv h;simp only[As,Bs,DQ]at a;split at b
   next g f=>simp only[Hr,c,N2];exact⟨a.1.1,a.1.2,Sh.beq_eq _ _ a.2,g,f,b⟩
   ·cases b
  ·cases h
 ·cases h
def sE{E d:Nat}{y a:V}{p:List Nat}(h:(XN ob E d p y a).to K Pn):Gu ob E d p y K a:=by
 unfold XN at h;split at h
 ·unfold Yxa at h;split at h
  ·rename_i i t e;obtain⟨b,c⟩:=Xv h;split at c
   ·rename_i j f;unfold Ysc at b;split at b
    next v g=>simp only[Gu,e,K7,f,Ml];exact .inl ⟨by rw[g,xK b],c⟩
    ·cases b
   ·cases c
  ·cases h
 ·cases h
def sF{y a:V}:∀{l:List (Nat×Nat×List Nat)} {ob:AB},(XO y a l ob).to K Pn->OE y K a l ob
|[],_,h=>h
|e::l,ob,h=>by
 unfold XO at h;split at h
 next d c b=>exact sE (Pn:=λ_ _=>False) (by rw[b];exact sF h)
 ·cases h
def I.A5(L:R.ok P){i:I}(h:(i.run R sl ob).to K Pn):i.wp P sl ob K Pn:=by
 cases i<;>simp only[I.run]at h<;>simp only[I.wp]
 case c x=>
  obtain⟨v,d,w⟩:=Uv h;exact C.A5 (K:=λv=>K v ob) d w
 case box E x=>obtain⟨d,w⟩:=Xv h;exact⟨d,w⟩
 case alloc E z=>obtain⟨d,w⟩:=Xv h;exact⟨d,w⟩
 case GU sz z Xs=>
  split at h
  ·rename_i l G;unfold Ty at G;split at G
   next ks U=>refine V8 _ _ U ?_;rw[G];exact h
   ·cases G
  ·cases h
 case GS E sz z Xs=>
  split at h
  ·rename_i l G;unfold Ty at G;split at G
   next ks U=>refine V8 _ _ U ?_;rw[G];exact h
   ·cases G
  ·cases h
 case st n x v=>
  generalize A.ev sl x=a at h⊢;unfold Zgj at h;split at h
  ·unfold Yzp at h;split at h
   ·rename_i E t G;rw[Tp]at h;unfold Yzq at h;split at h
    ·rename_i aa ho;obtain⟨d,w⟩:=Xv h;simp only[As,V.D6,Bs]at d;rw[ZO]at w;split at w
     next T X=>simp only[GH,G,JX,ho,JY];exact⟨X7g d.1.1,d.1.2,d.2,T,X,w⟩
     ·cases w
    ·cases h
   ·cases h
  unfold stR at h;split at h
  ·unfold Zgk at h;split at h
   ·rename_i E t G;unfold Zgl at h;split at h
    ·rename_i aa ho;obtain⟨d,w⟩:=Xv h;simp only[As,Bs]at d;split at w
     next T X=>simp only[GH,G,JX,ho,JY];exact⟨Sh.beq_eq _ _ d.1.1,d.1.2,d.2,T,X,w⟩
     ·cases w
    ·cases h
   ·cases h
  ·unfold Yzm at h;split at h
   ·rename_i o G;unfold Yzo at h;split at h
    ·rename_i v0 he;obtain⟨h0,h⟩:=Xv h;simp only[As,Bs]at h0;unfold Yzn at h;split at h
     ·rename_i aa ho;obtain⟨d,w⟩:=Xv h;simp only[As,Bs]at d;split at w
      next T X=>simp only[GH,G,M6,he,OO,ho,M7];exact⟨h0,Sh.beq_eq _ _ d.1.1,d.1.2,d.2,T,X,w⟩
      ·cases w
     ·cases h
    ·cases h
   ·cases h
  ·cases h
 case Gx E sz z Xs=>
  split at h
  next ks U=>exact V8 _ _ U h
  ·cases h
 case gv x=>exact gX h
 case HR n z x lo hi=>
  obtain⟨v,d,w⟩:=Uv h;generalize A.ev sl x=a at d⊢;unfold Zgf at d;split at d
  ·rename_i id p;unfold Yzg at d;split at d
   ·rename_i ks U;rw[Cl]at d;split at d
    next J=>simp only[As,Bs,DQ]at J;rw[D9]at d;obtain⟨q,Q,rfl⟩:=d;simp only[L0,U,Lk];exact⟨J.1,J.2,dP (K:=λl h=>K (.bs id p l (h-l)) ob) Q w⟩
    ·cases d
   ·cases d
  ·cases d
 case I1 z x y=>
  generalize A.ev sl x=a at h⊢;generalize A.ev sl y=b at h⊢;unfold Zb6 at h;split at h
  ·obtain⟨d,w⟩:=Xv h;exact⟨Gk d,qZ w⟩
  ·cases h
 case IV z0 z x=>
  generalize A.ev sl x=a at h⊢;unfold Zbu at h;split at h
  ·rename_i id p lo n;rw[Cl]at h;split at h
   ·rename_i W;have W:n=0:=CN W;obtain⟨d,w⟩:=Xv h;refine⟨λ_=>⟨?_,w⟩,λe=>(e W).elim⟩;generalize AA ob id=o at d⊢;unfold Yud at d;split at d
    ·exact⟨_,_,rfl⟩
    ·cases d
   next W=>have W:n≠0:=λe=>W (by rw[e];rfl);obtain⟨d,w⟩:=Xv h;simp only[As,Bs]at d;exact⟨λe=>(W e).elim,λ_=>⟨d,qZ w⟩⟩
  ·cases h
 case Hz g n z x i=>
  split at h
  ·rename_i y F;obtain⟨d,h9⟩:=Xv h;clear h;have e:=D.Bf _ _ d;subst e;refine⟨L.gl g _ F,?_⟩;obtain⟨v,w,H⟩:=Uv h9;generalize A.ev sl i=b at w⊢;unfold Zcr at w;split at w
   ·obtain⟨h4,rfl⟩:=Xz w;simp only[As,Bs,DQ]at h4;exact⟨h4.1.1,h4.1.2,h4.2,H⟩
   ·cases w
  ·cases h
 case Ia n ag x=>
  generalize A.ev sl x=a at h⊢;unfold Zc1 at h;split at h
  ·unfold Yur at h;split at h
   ·rename_i v hv;obtain⟨d,h⟩:=Xv h;simp only[As,Bs,CT]at d;unfold Yuq at h;split at h
    ·rename_i x1 ad hg;obtain⟨w,h⟩:=Xv h;unfold Yup at h;split at h
     ·rename_i E t G;split at h
      next T X=>simp only[Mr,hv,PY,hg,PX,G,Re];exact⟨d.1,d.2,Sh.beq_eq _ _ w,T,X,h⟩
      ·cases h
     ·cases h
    ·cases h
   ·cases h
  ·cases h
 case F7 E sz B x y=>
  split at h
  ·rename_i ys F;have N:Hp E sz B ob ys K (A.ev sl x):=by
    generalize A.ev sl x=a at h⊢;unfold Zbp at h;split at h
    ·unfold Ysb at h;split at h
     next E' Y Z G=>obtain⟨d,w⟩:=Xv h;simp only[As,Bs]at d;simp only[Hp,G,Mf];exact⟨d.1.1.1,d.1.1.2,d.1.2,d.2,w⟩
     next E' Y Z G=>obtain⟨d,w⟩:=Xv h;simp only[As,Bs]at d;simp only[Hp,G,Mf];exact⟨d.1.1.1,d.1.1.2,d.1.2,d.2,w⟩
     ·cases h
    ·obtain⟨d,w⟩:=Xv h;exact⟨Gk d,w⟩
    ·cases h
   generalize A.ev sl y=b at F⊢;unfold Yzl at F;split at F
   ·rw[Cl]at F;split at F
    next J=>cases F;exact⟨Gk J,N⟩
    ·cases F
   ·cases F;exact N
   ·rename_i id n;unfold Ygt at F;split at F
    ·rename_i E1 z ab G;rw[Cl]at F;split at F
     next J=>cases F;simp only[As,Bs]at J;obtain⟨⟨rfl,w⟩,H⟩:=J;exact .inl ⟨E1,_,G,w,H,N⟩
     ·cases F
    ·rename_i E1 z ab G;rw[Cl]at F;split at F
     next J=>cases F;simp only[As,Bs]at J;obtain⟨rfl,w⟩:=J;exact .inr ⟨E1,ab,G,w,N⟩
     ·cases F
    ·cases F
   ·cases F
  ·cases h
 case I0 E sz B x y=>
  split at h
  ·rename_i ys F;have N:Ew E sz B ob ys K (A.ev sl x):=by
    generalize A.ev sl x=a at h⊢;unfold XE at h;split at h
    ·unfold kv at h;split at h
     next E' Y Z G=>obtain⟨d,w⟩:=Xv h;simp only[As,Bs]at d;simp only[Ew,G,K0];exact⟨d.1.1.1,d.1.1.2,d.1.2,d.2,w⟩
     ·cases h
    ·obtain⟨d,w⟩:=Xv h;exact⟨Gk d,w⟩
    ·cases h
   generalize A.ev sl y=b at F⊢;unfold Zgi at F;split at F
   ·rw[Cl]at F;split at F
    next J=>cases F;exact⟨Gk J,N⟩
    ·cases F
   ·cases F;exact N
   ·cases F
  ·cases h
 case ER E B x y=>
  split at h
  ·rename_i ys F;have N:Ew E 1 B ob ys K (A.ev sl x):=by
    generalize A.ev sl x=a at h⊢;unfold XE at h;split at h
    ·unfold kv at h;split at h
     next E' Y Z G=>obtain⟨d,w⟩:=Xv h;simp only[As,Bs]at d;simp only[Ew,G,K0];exact⟨d.1.1.1,d.1.1.2,d.1.2,d.2,w⟩
     ·cases h
    ·obtain⟨d,w⟩:=Xv h;exact⟨Gk d,w⟩
    ·cases h
   generalize A.ev sl y=b at F⊢;unfold Yzk at F;split at F
   ·cases F;exact N
   ·cases F
  ·cases h
 case call f args=>exact VU L h
 case BX f args=>
  obtain⟨v,d,w⟩:=Uv h;exact(L.pc _ _ _ _ d).mono λv' e=>by subst e;exact w
 case Bx f args=>
  split at h
  next v b N=>exact(L.xc _ _ _ _ _ N).mono λv' b' ⟨e1,e2⟩=>by subst e1;subst e2;exact h
  ·cases h
 case Cq x args=>
  generalize A.ev sl x=a at h⊢;unfold Yek at h;split at h
  ·obtain⟨d,w⟩:=Xv h;exact⟨L.ca _ d,VU L w⟩
  ·obtain⟨d,w⟩:=Xv h;exact⟨L.ca _ d,VU L w⟩
  ·rename_i id;obtain⟨d,w⟩:=Xv h;refine⟨?_,Y0c L w⟩;unfold Yuf at d;split at d
   next e=>rw[e];trivial
   ·cases d
  ·cases h
 case panic x=>
  generalize A.ev sl x=a at h⊢;unfold Ygm at h;split at h
  ·exact h
  ·exact h
  ·cases h
 case HQ x=>
  obtain⟨v,d,w⟩:=Uv h;generalize A.ev sl x=a at d⊢;unfold Zge at d;split at d
  ·cases d;exact w
  ·cases d
 case ET E sz x=>obtain⟨d,w⟩:=Xv h;rw[xK d];exact w
 case Kb x=>exact gX h
 case IZ n ag x=>
  generalize A.ev sl x=a at h⊢;unfold Zc0 at h;split at h
  ·unfold Yuo at h;split at h
   next v hv=>obtain⟨d,w⟩:=Xv h;simp only[As,Bs,CT]at d;simp only[JR,hv,K5];exact⟨d.1,d.2,gX w⟩
   ·cases h
  ·cases h
 case H3=>exact sE h
 case I5=>exact sF h
 case Hy x=>
  generalize A.ev sl x=a at h⊢;unfold Zb7 at h;split at h
  ·unfold Ysw at h;split at h
   next E' sz Z G=>obtain⟨d,w⟩:=Xv h;simp at d;simp only[JJ,G,LW];exact⟨d.1.1,d.1.2,d.2,w⟩
   ·cases h
  ·cases h
 case EY E x y=>
  generalize A.ev sl x=a at h⊢;generalize A.ev sl y=b at h⊢;unfold Y0a at h;split at h
  ·unfold Yg9 at h;split at h
   ·rename_i E' sz Z G;obtain⟨d,w⟩:=Xv h;split at w
    next s hs=>simp at d;simp only[IK,G,LS];exact⟨d.1.1.1.1.1,d.1.1.1.1.2,d.1.1.1.2,d.1.1.2,d.1.2,d.2,s,vU hs,w⟩
    ·cases w
   ·cases h
  ·obtain⟨d,w⟩:=Xv h;exact⟨Gk d,w⟩
  ·cases h
 case HP r=>
  obtain⟨d,w⟩:=Xv h;refine⟨?_,w⟩;cases r with
  |none=>trivial
  |some x=>
   simp only[Zet]at d;simp only[Ko];generalize A.ev sl x=a at d⊢;unfold Yez at d;split at d
   ·trivial
   ·cases d
 case Ib kd z ok m k=>
  obtain⟨v,d,w⟩:=Uv h;generalize A.ev sl m=a at d⊢;generalize A.ev sl k=b at d⊢;unfold Zc6 at d;split at d
  ·unfold Yu0 at d;split at d
   next es G=>obtain⟨H,rfl⟩:=Xz d;simp only[JN,G,Lb];exact⟨zZ H,w⟩
   ·cases d
  ·obtain⟨H,rfl⟩:=Xz d;exact⟨H,w⟩
  ·cases d
 case C7 kd m k v=>
  generalize A.ev sl m=a at h⊢;generalize A.ev sl k=b at h⊢;unfold Yw9 at h;split at h
  ·unfold Yfb at h;split at h
   next es G=>obtain⟨d,w⟩:=Xv h;simp only[As]at d;simp only[KI,G,LM];exact⟨zZ d.1,d.2,w⟩
   ·cases h
  ·cases h
 case Ic x=>
  generalize A.ev sl x=a at h⊢;generalize AA ob (My a)=o at h⊢;unfold Zgd at h;split at h
  ·exact h
  ·exact h
  ·cases h
 case I6 x=>
  generalize A.ev sl x=a at h⊢;unfold Zf0 at h;split at h
  ·rename_i id;simp only[Lu];generalize AA ob id=o at h⊢;unfold Yyy at h;split at h
   ·exact h
   ·rename_i j n seen;simp only[K8];generalize AA ob j=o at h⊢;unfold Yyx at h;split at h
    ·rename_i es;obtain⟨d,w⟩:=Xv h;have O:∀i,i<n->seen.contains i=false->i∈(List.range n).filter λi=>!seen.contains i:=λi hi J=>by
      rw[List.mem_filter];exact⟨Ii.2 hi,by rw[J];rfl⟩
     have M:∀i,i∈(List.range n).filter (λi=>!seen.contains i)->i<n/\seen.contains i=false:=λi hi=>by
      rw[List.mem_filter]at hi;exact⟨Ii.1 hi.1,by simpa using hi.2⟩
     generalize (List.range n).filter (λi=>!seen.contains i)=l at w O M;refine⟨CN d,λha=>?_,λi hi J=>?_⟩
     ·unfold oH at w;split at w
      ·exact w
      next i=>obtain⟨b1,b2⟩:=M i (by simp);have:=DQ.1 ha i (Ii.2 b1);rw[b2]at this;cases this
      ·cases w
     ·have hm:=O i hi J;unfold oH at w;split at w
      ·cases hm
      ·rcases DA.1 hm with rfl|hm
       ·exact w
       ·cases hm
      ·cases w
    ·cases h
   ·cases h
  ·cases h
 case IW x=>
  obtain⟨v,d,w⟩:=Uv h;generalize A.ev sl x=a at d⊢;unfold Zck at d;split at d
  ·rename_i id;simp only[Ls];generalize AA ob id=o at d⊢;unfold Ytc at d;split at d
   ·rename_i j n y seen;simp only[No];generalize AA ob j=o at d⊢;refine⟨by simp,?_⟩;unfold Ytb at d;split at d
    ·obtain⟨H,rfl⟩:=Xz d;simp only[As,Bs]at H;exact⟨H.1,CN H.2,w⟩
    ·cases d
   ·cases d
  ·cases d
 case EI x=>
  obtain⟨v,d,w⟩:=Uv h;generalize A.ev sl x=a at d⊢;unfold Yut at d;split at d
  ·rename_i id;simp only[KG];generalize AA ob id=o at d⊢;unfold Ye5 at d;split at d
   ·cases d;exact w
   ·cases d
  ·cases d;exact w
  ·cases d
 case HO e m x=>
  obtain⟨v,d,w⟩:=Uv h;generalize A.ev sl x=a at d⊢;unfold Zcz at d;split at d
  ·rename_i id;simp only[Gt];generalize AA ob id=o at d⊢;unfold Yug at d;split at d
   ·cases d;exact w
   ·cases d
  ·cases d;exact w
  ·cases d;exact w
  next Z=>obtain⟨H,rfl⟩:=Xz d;refine⟨w,λe=>?_⟩;subst e;cases H
  ·rename_i id k;simp only[Gt];generalize AA ob id=o at d⊢;unfold Yuh at d;split at d
   ·obtain⟨H,rfl⟩:=Xz d;simp only[As,El,ZS]at H;exact⟨CN H.1,H.2,w⟩
   ·obtain⟨H,rfl⟩:=Xz d;simp only[As,El,ZS]at H;exact⟨CN H.1,H.2,w⟩
   ·cases d
  ·cases d
 case Dp nm t f fl x args=>
  generalize A.ev sl x=a at h⊢;unfold Zcw at h;split at h
  ·rename_i T id p;obtain⟨d,w⟩:=Xv h;simp only[As]at d;refine⟨CN d.1,L.ca _ d.2,?_⟩;split at w
   ·rename_i q Q;have J:=VU L w;unfold Yzd at Q;split at Q
    ·cases Q;exact J
    ·rename_i fi fo n ag;split at Q
     next u hu=>simp only[Lj];have h4:=C.A5 (K:=λv=>AV P f (v::args.map (A.ev sl)) ob (Ef K Pn)) Q J;have h5:=C.A5 (K:=λu=>D4 ob n ag (λv=>AV P f (v::args.map (A.ev sl)) ob (Ef K Pn)) u) hu (by simpa[C.wp,A.ev,Ay]using h4);simpa[C.wp,A.ev,Ay]using h5
     ·cases Q
   ·cases w
  ·cases h
 case I4 E sz B z l=>
  generalize A.ev sl l=a at h⊢;unfold Zeu at h;split at h
  ·obtain⟨d,w⟩:=Xv h;simp only[As,Bs]at d;exact⟨d.1,d.2,w⟩
  ·cases h
 case I9 z x hh=>
  generalize A.ev sl x=a at h⊢;generalize A.ev sl hh=b at h⊢;unfold Zgp at h;split at h
  ·rename_i id n m;simp only[Mz];generalize AA ob id=o at h⊢;unfold Yz7 at h;split at h
   ·obtain⟨d,w⟩:=Xv h;simp only[As,El,ZS,Bs]at d;exact⟨CN d.1.1.1,CN d.1.1.2,d.1.2,d.2,w⟩
   ·cases h
  ·cases h
 case Ie n z x=>
  generalize A.ev sl x=a at h⊢;unfold Zgg at h;split at h
  ·rename_i id p;unfold Yzj at h;split at h
   next Z ac=>obtain⟨d,w⟩:=Xv h;simp only[As,Bs,DQ]at d;simp only[KA,ac,Ll];exact⟨d.1,d.2,w⟩
   ·cases h
  ·cases h
 case KS g n ag x=>
  split at h
  next y F=>obtain⟨d,w⟩:=Xv h;simp only[As,Bs,CT]at d;have e:=D.Bf _ _ d.2;subst e;exact⟨L.gl g _ F,d.1.1,d.1.2,w⟩
  ·cases h
end
inductive Rq where
|ok (sl:Xb) (ob:AB)
|pn (v:V) (sl:Xb) (ob:AB)
|no
def Rq.to(K:Xb->AB->Prop)(c:V->Xb->AB->Prop):Rq->Prop
|.ok b a=>K b a
|.pn v b a=>c v b a
|.no=>False
mutual
def V.GZ:V->List Nat
|.ptr id _=>[id]
|.sl id _=>[id]
|.sd id _=>[id]
|.mp id=>[id]
|.hd _ id=>[id]
|.ep id _ _ _ _ _=>[id]
|.bs id _ _ _=>[id]
|.fn _ a b=>LF a++LF b
|.agg c=>LF c
|.iface _ v=>V.GZ v
|.BE c=>LF c
|_=>[]
def LF:List V->List Nat
|[]=>[]
|x::r=>V.GZ x++LF r
end
def jH:Xb->List Nat
|[]=>[]
|(_,v)::r=>V.GZ v++jH r
def JP:AB->List Nat
|[]=>[]
|(_,.box _ t)::r=>V.GZ t++JP r
|(_,.Ao _ _ c)::r=>LF c++JP r
|(_,.map a)::r=>LF (a.map (·.2))++JP r
|(_,.lp _ _ b)::r=>jH b++JP r
|(_,.it (some j) _ _)::r=>j::JP r
|_::r=>JP r
def Pb(R:C1)(b:Xb)(c:AB)(d:Option Nat)(i:I)(k:Xb->AB->Rq):Rq:=match i.run R b c with
|.ok v a=>k (put b d v) a
|.pn v a=>.pn v b a
|.no=>.no
def Ly(R:C1):List It->Xb->AB->Rq
|[],c,e=>.ok c e
|.op d i::r,c,e=>Pb R c e d i (Ly R r)
|.C6 s a d i::r,c,e=>match Ay c s with
 |.d (.bool b)=>bif b==a then Pb R ((s,.d (.bool a))::c) e d i (Ly R r) else Ly R r (put ((s,.d (.bool (!a)))::c) d .undef) e
 |.undef=>Ly R r (put c d .undef) e
 |_=>.no
def Uz{P:Az}{R:C1}(j:R.ok P){b:Xb}{c:AB}{d:Option Nat}{i:I}{k:Xb->AB->Rq}{g K:Xb->AB->Prop}{f:V->Xb->AB->Prop}(l:∀b c,(k b c).to K f->g b c)(h:(Pb R b c d i k).to K f):
 i.wp P b c (λv a=>g (put b d v) a) (λv a=>f v b a):=by
 refine I.A5 j ?_;unfold Pb at h;split at h
 next e=>rw[e];exact l _ _ h
 next e=>rw[e];exact h
 ·cases h
def Wd{P:Az}{R:C1}(g:R.ok P){K:Xb->AB->Prop}{m:V->Xb->AB->Prop}:∀(l:List It)(f:Xb)(a:AB),(Ly R l f a).to K m->DE P K m l f a
|[],f,a,h=>h
|.op d i::r,f,a,h=>Uz g (λf a h=>Wd g r f a h) h
|.C6 s c d i::r,f,a,h=>by
 simp only[Ly]at h;simp only[DE];split at h
 ·rename_i b k;rw[k];simp only[HK];rw[Cl]at h;split at h
  ·rename_i e;have e:b=c:=by simpa using e
   refine⟨λ_=>Uz g (λf a h=>Wd g r f a h) h,λj=>?_⟩;rw[e]at j;cases c<;>cases j
  ·rename_i e;have e:¬b=c:=by simpa using e
   exact⟨λj=>(e j).elim,λ_=>Wd g r _ a h⟩
 next k=>rw[k];exact Wd g r _ a h
 ·cases h
mutual
def V.Bg:V->V->Bool
|.d x,.d y=>D.Bg x y
|.ptr i p,.ptr j q=>Nat.beq i j&&decide (p=q)
|.sl i n,.sl j m=>Nat.beq i j&&Nat.beq n m
|.sd i n,.sd j m=>Nat.beq i j&&Nat.beq n m
|.mp i,.mp j=>Nat.beq i j
|.hd a i,.hd b j=>a==b&&Nat.beq i j
|.ep i n s k f p,.ep j m t l g q=>Nat.beq i j&&Nat.beq n m&&Nat.beq s t&&Nat.beq k l&&Nat.beq f g&&decide (p=q)
|.bs i p k n,.bs j q l m=>Nat.beq i j&&Nat.beq k l&&Nat.beq n m&&decide (p=q)
|.fn f a b,.fn g c e=>Nat.beq f g&&V.B8 a c&&V.B8 b e
|.agg a,.agg b=>V.B8 a b
|.iface t a,.iface u b=>Nat.beq t u&&V.Bg a b
|.BE a,.BE b=>V.B8 a b
|.undef,.undef=>true
|.any,.any=>true
|_,_=>false
def V.B8:List V->List V->Bool
|[],[]=>true
|x::r,y::s=>V.Bg x y&&V.B8 r s
|_,_=>false
end
mutual
def V.Bf:∀(x y:V),V.Bg x y=true->x=y
|.d a,y,h=>by cases y<;>simp only[V.Bg,BF]at h;rw[D.Bf _ _ h]
|.ptr i p,y,h=>by cases y<;>simp only[V.Bg,BF,As,Bs]at h;rw[CN h.1,h.2]
|.sl i n,y,h=>by cases y<;>simp only[V.Bg,BF,As]at h;rw[CN h.1,CN h.2]
|.sd i n,y,h=>by cases y<;>simp only[V.Bg,BF,As]at h;rw[CN h.1,CN h.2]
|.mp i,y,h=>by cases y<;>simp only[V.Bg,BF]at h;rw[CN h]
|.hd a i,y,h=>by cases y<;>simp only[V.Bg,BF,As,CT]at h;rw[h.1,CN h.2]
|.ep i n s k f p,y,h=>by
 cases y<;>simp only[V.Bg,BF,As,Bs]at h;rw[CN h.1.1.1.1.1,CN h.1.1.1.1.2,CN h.1.1.1.2,CN h.1.1.2,CN h.1.2,h.2]
|.bs i p k n,y,h=>by
 cases y<;>simp only[V.Bg,BF,As,Bs]at h;rw[CN h.1.1.1,CN h.1.1.2,CN h.1.2,h.2]
|.fn f a b,y,h=>by
 cases y<;>simp only[V.Bg,BF,As]at h;rw[CN h.1.1,V.By _ _ h.1.2,V.By _ _ h.2]
|.agg a,y,h=>by cases y<;>simp only[V.Bg,BF]at h;rw[V.By _ _ h]
|.iface t a,y,h=>by cases y<;>simp only[V.Bg,BF,As]at h;rw[CN h.1,V.Bf _ _ h.2]
|.BE a,y,h=>by cases y<;>simp only[V.Bg,BF]at h;rw[V.By _ _ h]
|.undef,y,h=>by cases y<;>simp[V.Bg]at h;rfl
|.any,y,h=>by cases y<;>simp[V.Bg]at h;rfl
def V.By:∀(x y:List V),V.B8 x y=true->x=y
|[],y,h=>by cases y<;>simp[V.B8]at h;rfl
|x::r,y,h=>by
 cases y<;>simp only[V.B8,BF,As]at h;rw[V.Bf _ _ h.1,V.By _ _ h.2]
end
def Sv:List (D×V)->List (D×V)->Bool
|[],[]=>true
|(k,x)::r,(j,y)::s=>D.Bg k j&&V.Bg x y&&Sv r s
|_,_=>false
def rh:∀(x y:List (D×V)),Sv x y=true->x=y
|[],y,h=>by cases y<;>simp[Sv]at h;rfl
|(k,x)::r,y,h=>by
 cases y<;>simp only[Sv,BF,As]at h;rw[D.Bf _ _ h.1.1,V.Bf _ _ h.1.2,rh _ _ h.2]
def Mw:Xb->Xb->Bool
|[],[]=>true
|(k,x)::r,(j,y)::s=>Nat.beq k j&&V.Bg x y&&Mw r s
|_,_=>false
def Rz:∀(x y:Xb),Mw x y=true->x=y
|[],y,h=>by cases y<;>simp[Mw]at h;rfl
|(k,x)::r,y,h=>by
 cases y<;>simp only[Mw,BF,As]at h;rw[CN h.1.1,V.Bf _ _ h.1.2,Rz _ _ h.2]
def EC.Bg:EC->EC->Bool
|.ready,.ready=>true
|.busy,.busy=>true
|.ret,.ret=>true
|.exit n,.exit m=>Nat.beq n m
|_,_=>false
def EC.Bf(x y:EC)(h:EC.Bg x y=true):x=y:=by
 cases x<;>cases y<;>simp only[EC.Bg,BF]at h
 ·rfl
 ·rfl
 ·rfl
 ·rw[CN h]
def Ob.Bg:Ob->Ob->Bool
|.box E t,.box F u=>Nat.beq E F&&V.Bg t u
|.A9 E z a,.A9 F y b=>Nat.beq E F&&Nat.beq z y&&D.B8 a b
|.Ao E z a,.Ao F y b=>Nat.beq E F&&Nat.beq z y&&V.B8 a b
|.map a,.map b=>Sv a b
|.AY,.AY=>true
|.it a n l,.it b m k=>decide (a=b)&&Nat.beq n m&&decide (l=k)
|.lp t s l,.lp u r k=>Nat.beq t u&&EC.Bg s r&&Mw l k
|_,_=>false
def Ob.Bf(x y:Ob)(h:Ob.Bg x y=true):x=y:=by
 cases x<;>cases y<;>simp only[Ob.Bg,BF,As]at h
 ·rw[CN h.1,V.Bf _ _ h.2]
 ·rw[CN h.1.1,CN h.1.2,D.By _ _ h.2]
 ·rw[CN h.1.1,CN h.1.2,V.By _ _ h.2]
 ·rw[rh _ _ h]
 ·rfl
 ·rw[CN h.1.1,EC.Bf _ _ h.1.2,Rz _ _ h.2]
 ·simp only[Bs]at h;rw[h.1.1,CN h.1.2,h.2]
def Mv:AB->AB->Bool
|[],[]=>true
|(k,x)::r,(j,y)::s=>Nat.beq k j&&Ob.Bg x y&&Mv r s
|_,_=>false
def Ry:∀(x y:AB),Mv x y=true->x=y
|[],y,h=>by cases y<;>simp[Mv]at h;rfl
|(k,x)::r,y,h=>by
 cases y<;>simp only[Mv,BF,As]at h;rw[CN h.1.1,Ob.Bf _ _ h.1.2,Ry _ _ h.2]
def Rq.Bg:Rq->Rq->Bool
|.ok a b,.ok c d=>Mw a c&&Mv b d
|.pn v a b,.pn u c d=>V.Bg v u&&Mw a c&&Mv b d
|_,_=>false
def Rq.Bf(x y:Rq)(h:Rq.Bg x y=true):x=y:=by
 cases x<;>cases y<;>simp only[Rq.Bg,BF,As]at h
 ·rw[Rz _ _ h.1,Ry _ _ h.2]
 ·rw[V.Bf _ _ h.1.1,Rz _ _ h.1.2,Ry _ _ h.2]
def lJ(x y:Rq):Rq:=bif Rq.Bg x y then x else .no
def X9t{K:Xb->AB->Prop}{a:V->Xb->AB->Prop}{x y:Rq}(h:(lJ x y).to K a):x.to K a/\y.to K a:=by
 unfold lJ at h;cases b:Rq.Bg x y with
 |false=>rw[b]at h;cases h
 |true=>
  rw[b]at h;have:=Rq.Bf x y b;subst this;exact⟨h,h⟩
def OV(R:C1)(k:Xb->AB->Rq):It->Xb->AB->Rq
|.op d i,c,e=>Pb R c e d i k
|.C6 s a d i,c,e=>match Ay c s with
 |.d (.bool b)=>bif b==a then Pb R ((s,.d (.bool a))::c) e d i k else k (put ((s,.d (.bool (!a)))::c) d .undef) e
 |.undef=>k (put c d .undef) e
 |_=>.no
def Rd(a d:List Nat):Rq->Rq
|.ok c b=>.ok (Xj c a) b
|.pn v c b=>.pn v (Xj c d) b
|.no=>.no
mutual
def M1(R:C1)(a d:List Nat):Ot->Xb->AB->Rq
|.done,c,b=>.ok c b
|.BU _ x r,c,b=>OV R (M1 R a d r) x c b
|.br l,c,b=>Ri R a d l c b
def Ri(R:C1)(a b:List Nat):Ev->Xb->AB->Rq
|.nil,_,_=>.no
|.cons _ x r .nil,d,c=>Rd a b (OV R (M1 R a b r) x d c)
|.cons _ x r l,d,c=>lJ (Rd a b (OV R (M1 R a b r) x d c)) (Ri R a b l d c)
end
abbrev Rs:=Option (Cv×Xb×AB)
def Rs.to(Q:Yt):Rs->Prop
|some (e,b,a)=>Q e b a
|none=>False
def Zgn(a:List Nat)(n:Nat)(d:Xb)(c:AB):Option (Xb×AB):=
 let b:=jH (Xj d a)++JP c
 bif Za (AE n b) (Xj d a)&&AH (AE n b) (Xh (AE n b) c) then some (Xj d a,Xh (AE n b) c) else none
def YH(b:List Nat)(a:Xb->AB->Rs):Nat->Xb->AB->Rs
|0,_,_=>none
|n+1,h,g=>match a h g with
 |some (.normal,e,c)=>match Zgn b (fresh g) e c with
  |some (f,d)=>YH b a n f d
  |none=>none
 |r=>r
def vt{a:Xb}:∀(l:List Nat)(k:Nat),k∈l->Ay (Xj a l) k=Ay a k
|j::r,k,h=>by
 simp only[Xj,Ay];split
 next e=>rw[e]
 next e=>exact vt r k ((DA.1 h).resolve_left (λb=>e b.symm))
def xM{a:Xb}{l:List Nat}:∀(m:List Nat),(∀k∈m,k∈l)->Xj (Xj a l) m=Xj a m
|[],_=>rfl
|k::r,h=>by
 simp only[Xj,vt l k (h k (by simp)),xM r (λj b=>h j (by simp[b]))]
def vq(a:Xb)(l:List Nat):Xj (Xj a l) l=Xj a l:=xM l λ_ h=>h
def zX{Q:Yt}{a d:List Nat}{r:Rq}(h:(Rd a d r).to (λc b=>Q .normal (Xj c a) b) (λv c b=>Q (.panic v) (Xj c d) b)):r.to (λc b=>Q .normal (Xj c a) b) (λv c b=>Q (.panic v) (Xj c d) b):=by
 cases r with
 |ok c b=>simp only[Rd,Rq.to,vq]at h⊢;exact h
 |pn v c b=>simp only[Rd,Rq.to,vq]at h⊢;exact h
 |no=>cases h
def Qu{P:Az}{R:C1}(n:R.ok P){k:Xb->AB->Rq}{o K:Xb->AB->Prop}{l:V->Xb->AB->Prop}(j:∀f c,(k f c).to K l->o f c):∀(x:It)(f:Xb)(c:AB),(OV R k x f c).to K l->Fo P o l x f c
|.op d i,f,c,h=>Uz n j h
|.C6 s a d i,f,c,h=>by
 simp only[OV]at h;simp only[Fo];split at h
 ·rename_i b m;rw[m];simp only[HK];rw[Cl]at h;split at h
  ·rename_i e;have e:b=a:=by simpa using e
   refine⟨λ_=>Uz n j h,λg=>?_⟩;rw[e]at g;cases a<;>cases g
  ·rename_i e;have e:¬b=a:=by simpa using e
   exact⟨λg=>(e g).elim,λ_=>j _ _ h⟩
 next m=>rw[m];exact j _ _ h
 ·cases h
mutual
def Jc{P:Az}{R:C1}(d:R.ok P){Q:Yt}{c e:List Nat}:∀(t:Ot)(b:Xb)(a:AB),(M1 R c e t b a).to (λb a=>Q .normal (Xj b c) a) (λv b a=>Q (.panic v) (Xj b e) a)->Dh P (λb a=>Q .normal (Xj b c) a) (λv b a=>Q (.panic v) (Xj b e) a) t b a
|.done,b,a,h=>by simp only[M1]at h;simp only[Dh];exact h
|.BU _ x r,b,a,h=>by
 simp only[M1]at h;simp only[Dh];exact Qu d (λb a h=>Jc d r b a h) x b a h
|.br l,b,a,h=>by simp only[M1]at h;simp only[Dh];exact vF d l b a h
def vF{P:Az}{R:C1}(d:R.ok P){Q:Yt}{c e:List Nat}:∀(l:Ev)(b:Xb)(a:AB),(Ri R c e l b a).to (λb a=>Q .normal (Xj b c) a) (λv b a=>Q (.panic v) (Xj b e) a)->FH P (λb a=>Q .normal (Xj b c) a) (λv b a=>Q (.panic v) (Xj b e) a) l b a
|.nil,b,a,h=>by simp only[FH]
|.cons _ x r .nil,b,a,h=>by
 simp only[Ri]at h;simp only[FH,GK];exact Qu d (λb a h=>Jc d r b a h) x b a (zX h)
|.cons _ x r (.cons i y s l),b,a,h=>by
 simp only[Ri]at h;rw[FH];obtain⟨f,g⟩:=X9t h;exact⟨Qu d (λb a h=>Jc d r b a h) x b a (zX f),vF d (.cons i y s l) b a g⟩
end
def Zgb(a:Xb)(id:Nat)(b:AB):Option Ob->Rs
|some (.lp _ .ready _)=>some (.normal,a,AG b id .AY)
|some (.lp _ .ret _)=>some (.ret,a,AG b id .AY)
|some (.lp _ (.exit n) _)=>some (.exit n,a,AG b id .AY)
|_=>none
def XR(a:Xb)(id:Nat):Option (A7×AB)->Rs
|some (.ret _,b)=>Zgb a id b (AA b id)
|_=>none
def rgR(R:C1)(c:Nat)(a:Xb)(b:AB):V->Rs
|.fn f g e=>bif R.ca f then XR a (fresh b) (R.call f (g++[.hd true (fresh b)]++e) ((fresh b,.lp c .ready a)::b)) else none
|.d (.fn f g e)=>bif R.ca f then XR a (fresh b) (R.call f (g.map .d++[.hd true (fresh b)]++e.map .d) ((fresh b,.lp c .ready a)::b)) else none
|_=>none
def S.loops(P:Az):S->Prop
|.seq a b=>a.loops P/\b.loops P
|.cond _ a b=>a.loops P/\b.loops P
|.block _ a=>a.loops P
|.loop _ a=>a.loops P
|.E4 c d _ x y _=>V7 P c d x y
|_=>True
def S.BY{P:Az}:∀s:S,s.DC=true->s.loops P
|.seq a b,h=>by simp only[S.DC,As]at h;exact⟨S.BY a h.1,S.BY b h.2⟩
|.cond _ a b,h=>by simp only[S.DC,As]at h;exact⟨S.BY a h.1,S.BY b h.2⟩
|.block _ a,h=>S.BY a h
|.loop _ a,h=>S.BY a h
|.E4 _ _ _ _ _ _,h=>by simp[S.DC]at h
|.rg _ _ _ _,_|.E3 _ _ _ _,_|.skip,_|.exit _,_|.ret,_=>trivial
def ti{R:C1}{P:Az}{f:Nat}{d:List V}{a:AB}{c:Xb}{id:Nat}{Q:Yt}(j:R.ok P)(h:(XR c id (R.call f d a)).to Q):AV P f d a (I8 Q c id):=by
 unfold XR at h;split at h
 ·rename_i v b k;refine(j.call f d a _ _ k).mono λo e ⟨g,i⟩=>?_;subst g;subst i;simp only[I8];generalize AA e id=z at h⊢;unfold Zgb at h;split at h
  ·exact h
  ·exact h
  ·exact h
  ·cases h
 ·cases h
def S.run(R:C1)(L:Nat):S->Xb->AB->Rs
|.rg _ l e k,i,j=>match Ly R l i j with
 |.ok h f=>some (.normal,Xj h e,f)
 |.pn v h f=>some (.panic v,Xj h k,f)
 |.no=>none
|.E3 _ t e k,i,j=>match M1 R e k t i j with
 |.ok h f=>some (.normal,Xj h e,f)
 |.pn v h f=>some (.panic v,Xj h k,f)
 |.no=>none
|.seq a b,i,j=>match S.run R L a i j with
 |some (.normal,h,f)=>S.run R L b h f
 |r=>r
|.skip,i,j=>some (.normal,i,j)
|.cond c a b,i,j=>match c.ev i with
 |.d (.bool t)=>bif t then S.run R L a i j else S.run R L b i j
 |_=>none
|.block n a,i,j=>match S.run R L a i j with
 |some (.exit m,h,f)=>bif decide (m=n) then some (.normal,h,f) else some (.exit m,h,f)
 |r=>r
|.loop e a,i,j=>YH e (S.run R L a) L (Xj i e) j
|.exit n,i,j=>some (.exit n,i,j)
|.ret,i,j=>some (.ret,i,j)
|.E4 o _ g _ _ e,i,j=>rgR R o (Xj i e) j (g.ev i)
def S.A5{P:Az}{R:C1}(p:R.ok P){L:Nat}:∀(s:S)(Q:Yt)(f:Xb)(i:AB),s.loops P->(s.run R L f i).to Q->Co P s Q f i
|.rg _ l j M,Q,f,i,k,h=>by
 simp only[S.run]at h;simp only[Co];refine Wd p _ _ _ ?_;split at h
 next e=>rw[e];exact h
 next e=>rw[e];exact h
 ·cases h
|.E3 _ t j M,Q,f,i,k,h=>by
 simp only[S.run]at h;simp only[Co];refine Jc p _ _ _ ?_;split at h
 next e=>rw[e];exact h
 next e=>rw[e];exact h
 ·cases h
|.seq a b,Q,f,i,k,h=>by
 simp only[S.run]at h;simp only[Co];refine S.A5 (L:=L) p a _ f i k.1 ?_;split at h
 next e=>rw[e];exact S.A5 (L:=L) p b Q _ _ k.2 h
 ·rename_i d;revert h d;generalize S.run R L a f i=r;intro d h;cases r with
  |none=>cases h
  |some x=>
   obtain⟨e,u,q⟩:=x;cases e with
   |normal=>exact(d _ _ rfl).elim
   |exit n=>exact h
   |ret=>exact h
   |panic v=>exact h
|.skip,Q,f,i,k,h=>h
|.cond c a b,Q,f,i,k,h=>by
 simp only[S.run]at h;simp only[Co];split at h
 ·rename_i t J;rw[J];cases t
  ·exact⟨λe=>(by cases e),λ_=>S.A5 (L:=L) p b Q f i k.2 h⟩
  ·exact⟨λ_=>S.A5 (L:=L) p a Q f i k.1 h,λe=>(by cases e)⟩
 ·cases h
|.block n a,Q,f,i,k,h=>by
 simp only[S.run]at h;simp only[Co];refine S.A5 (L:=L) p a _ f i k ?_;split at h
 ·rename_i m u q e;rw[e];rw[Cl]at h;simp only[Rs.to,Yw];by_cases H:m=n
  ·simp only[H,decide_true,Cz]at h⊢;exact h
  ·simp only[H,decide_false,BF,Ci]at h⊢;exact h
 ·rename_i d;revert h d;generalize S.run R L a f i=r;intro d h;cases r with
  |none=>cases h
  |some x=>
   obtain⟨e,u,q⟩:=x;cases e with
   |normal=>exact h
   |exit n=>exact(d _ _ _ rfl).elim
   |ret=>exact h
   |panic v=>exact h
|.loop j a,Q,f,i,k,h=>by
 simp only[S.run]at h;simp only[Co];refine Ae.of (ι:=Nat×Xb×AB) (λx=>x.2.1) (λx=>x.2.2) (λx=>(YH j (S.run R L a) x.1 x.2.1 x.2.2).to Q) (λx=>x.1) (L,Xj f j,i) h rfl rfl ?_;rintro⟨n,G,F⟩ o;refine S.A5 (L:=L) p a _ _ _ k ?_;simp only at o⊢;cases n with
 |zero=>cases o
 |succ n=>
  simp only[YH]at o;split at o
  ·rename_i u q e;rw[e];split at o
   ·rename_i N K z;unfold Zgn at z;rw[Cl]at z;split at z
    next w=>simp only[As]at w;cases z;exact⟨_,_,Wk.refl _,w.1,w.2,(n,_,_),o,Nat.lt_succ_self n,rfl,rfl⟩
    ·cases z
   ·cases o
  ·rename_i d;revert o d;generalize S.run R L a G F=r;intro d o;cases r with
   |none=>cases o
   |some x=>
    obtain⟨e,u,q⟩:=x;cases e with
    |normal=>exact(d _ _ rfl).elim
    |exit n=>exact o
    |ret=>exact o
    |panic v=>exact o
|.exit n,Q,f,i,k,h=>h
|.ret,Q,f,i,k,h=>h
|.E4 O T g x y j,Q,f,i,k,h=>by
 simp only[S.run]at h;simp only[Co];refine⟨k,?_⟩;generalize g.ev f=v at h⊢;unfold rgR at h;split at h
 ·rw[Cl]at h;split at h
  next w=>exact⟨p.ca _ w,ti p h⟩
  ·cases h
 ·rw[Cl]at h;split at h
  next w=>exact⟨p.ca _ w,ti p h⟩
  ·cases h
 ·cases h
def TF(id n:Nat)(f:EC)(e:AB)(o:A7):Option Ob->Option (A7×AB)
|some (.lp d _ c)=>
 let b:=AG e id (.lp d f c);let a:=JP b
 bif AH (AE n a) (Xh (AE n a) b) then some (o,Xh (AE n a) b) else none
|_=>none
def Zga(id n:Nat):Rs->Option (A7×AB)
|some (.normal,_,a)=>TF id n .ready a (.ret (.d (.bool true))) (AA a id)
|some (.ret,_,a)=>TF id n .ret a (.ret (.d (.bool false))) (AA a id)
|some (.exit m,_,a)=>TF id n (.exit m) a (.ret (.d (.bool false))) (AA a id)
|_=>none
def Zf9(R:C1)(L:Nat)(y:S)(id n:Nat)(d:Xb)(c:AB):Option Ob->Option (A7×AB)
|some (.lp b .ready a)=>Zga id n (y.run R L d (AG c id (.lp b .busy a)))
|_=>none
def py(R:C1)(L:Nat)(lt:Nat->Option (List Nat×S×S))(id:Nat)(f:List V)(b:AB):Option (A7×AB):=match AA b id with
|some (.lp d .ready c)=>(match lt d with
 |some (e,x,y)=>bif Nat.beq f.length e.length then
  (match x.run R L (H8 c e f) b with
  |some (.normal,g,a)=>Zf9 R L y id (fresh b) g a (AA a id)
  |_=>none)
  else none
 |none=>none)
|_=>none
def X8v{P:Az}(H:P.p.follows .mixedOrders=true){R:C1}(r:R.ok P){L:Nat}{lt:Nat->Option (List Nat×S×S)}(j:∀a m x y,lt a=some (m,x,y)->V7 P a m x y/\x.DC=true/\y.DC=true){id:Nat}{s:List V}{g b:AB}{o:A7}(h:py R L lt id s g=some (o,b)):
 CL P id s g λK i=>K=o/\i=b:=by
 unfold py at h;split at h
 ·rename_i a O G;split at h
  ·rename_i m x y J;obtain⟨t,k,l⟩:=j _ _ _ _ J;rw[Cl]at h;split at h
   ·rename_i c;refine CL.of H t G (CN c) (S.A5 (L:=L) r x _ _ _ (S.BY x k) ?_);split at h
    ·rename_i N f e;rw[e];simp only[Rs.to,YY];generalize AA f id=z at h⊢;unfold Zf9 at h;split at h
     ·rename_i Q M;simp only[YZ];refine S.A5 (L:=L) r y _ _ _ (S.BY y l) ?_;generalize y.run R L N (AG f id (.lp Q .busy M))=w at h⊢;have Cm:∀{n:EC}{q:AB}{v:Bool}{u:Option Ob},TF id (fresh g) n q (.ret (.d (.bool v))) u=some (o,b)->MH id (fresh g) n q (λi=>(A7.ret (.d (.bool v))=o)/\i=b) u:=by
       intro n q v u h;unfold TF at h;split at h
       ·simp only at h;rw[Cl]at h;split at h
        next F=>simp only[Bu,Fh]at h;exact⟨_,rfl,F,h.1,h.2⟩
        ·cases h
       ·cases h
      unfold Zga at h;split at h
      ·exact Cm h
      ·exact Cm h
      ·exact Cm h
      ·cases h
     ·cases h
    ·cases h
   ·cases h
  ·cases h
 ·cases h
def Zcm(x y:Xb×AB):Bool:=Mw x.1 y.1&&Mv x.2 y.2
def YI(x:Xb×AB):List (Xb×AB)->Bool
|[]=>false
|y::r=>bif Zcm x y then true else YI x r
def Pd:List (Xb×AB)->List (Xb×AB)->List (Xb×AB)
|[],l=>l
|x::r,l=>bif YI x l then Pd r l else x::Pd r l
def xI{x:Xb×AB}:∀{l:List (Xb×AB)},YI x l=true->x∈l
|[],h=>by cases h
|y::r,h=>by
 simp only[YI,Cl]at h;split at h
 next e=>simp only[Zcm,As]at e;have:x=y:=Prod.ext (Rz _ _ e.1) (Ry _ _ e.2);exact this▸List.mem_cons_self
 ·exact Kl _ (xI h)
def Q2{y:Xb×AB}:∀(a l:List (Xb×AB)),(y∈a\/y∈l)->y∈Pd a l
|[],l,h=>by simpa[Pd]using h
|x::r,l,h=>by
 simp only[Pd,Cl];split
 ·rename_i e;refine Q2 r l ?_;rcases h with h|h
  ·rcases DA.1 h with h|h
   ·exact .inr (h▸xI e)
   ·exact .inl h
  ·exact .inr h
 ·rcases h with h|h
  ·rcases DA.1 h with h|h
   ·exact h▸List.mem_cons_self
   ·exact Kl _ (Q2 r l (.inl h))
  ·exact Kl _ (Q2 r l (.inr h))
def oU:Option (List (Xb×AB))->Option (List (Xb×AB))->Option (List (Xb×AB))
|some a,some b=>some (Pd a b)
|_,_=>none
def oQ(k:Xb->AB->Option (List (Xb×AB))):Rq->Option (List (Xb×AB))
|.ok b a=>k b a
|_=>none
mutual
def Le(R:C1)(a:List Nat):Ot->Xb->AB->Option (List (Xb×AB))
|.done,c,b=>some [(Xj c a,b)]
|.BU _ x r,c,b=>oQ (Le R a r) (OV R .ok x c b)
|.br l,c,b=>WY R a l c b
def WY(R:C1)(a:List Nat):Ev->Xb->AB->Option (List (Xb×AB))
|.nil,_,_=>some []
|.cons _ x r l,c,b=>oU (oQ (Le R a r) (OV R .ok x c b)) (WY R a l c b)
end
def LX(Q:Xb->AB->Prop)(o:Option (List (Xb×AB))):Prop:=∃l,o=some l/\∀r∈l,Q r.1 r.2
def Ydx{Q:Xb->AB->Prop}{a b:Option (List (Xb×AB))}(h:LX Q (oU a b)):LX Q a/\LX Q b:=by
 obtain⟨l,e,h⟩:=h;cases a<;>cases b<;>simp only[oU,Bu,reduceCtorEq]at e;subst e;exact⟨⟨_,rfl,λr c=>h r (Q2 _ _ (.inl c))⟩,⟨_,rfl,λr c=>h r (Q2 _ _ (.inr c))⟩⟩
def tj{Q:Xb->AB->Prop}{c:V->Xb->AB->Prop}{k:Xb->AB->Option (List (Xb×AB))}{q:Rq}(h:LX Q (oQ k q)):q.to (λb a=>LX Q (k b a)) c:=by
 cases q with
 |ok b a=>exact h
 |pn v b a=>obtain⟨l,e,_⟩:=h;cases e
 |no=>obtain⟨l,e,_⟩:=h;cases e
mutual
def J5{P:Az}{R:C1}(d:R.ok P){Q:Xb->AB->Prop}{f:V->Xb->AB->Prop}{c:List Nat}:∀(t:Ot)(b:Xb)(a:AB),LX Q (Le R c t b a)->Dh P (λb a=>Q (Xj b c) a) f t b a
|.done,b,a,h=>by
 obtain⟨l,e,h⟩:=h;simp only[Le,Bu]at e;subst e;exact h _ (DW.2 rfl)
|.BU i x r,b,a,h=>by
 simp only[Le]at h;rw[Dh];exact Qu (k:=.ok) (K:=λb a=>LX Q (Le R c r b a)) d (λb a h=>J5 d r b a h) x b a (tj h)
|.br l,b,a,h=>by
 simp only[Le]at h;rw[Dh];exact uh d l b a h
def uh{P:Az}{R:C1}(d:R.ok P){Q:Xb->AB->Prop}{e:V->Xb->AB->Prop}{c:List Nat}:∀(l:Ev)(b:Xb)(a:AB),LX Q (WY R c l b a)->FH P (λb a=>Q (Xj b c) a) e l b a
|.nil,b,a,h=>by rw[FH];trivial
|.cons i x r l,b,a,h=>by
 simp only[WY]at h;rw[FH];obtain⟨f,g⟩:=Ydx h;exact⟨Qu (k:=.ok) (K:=λb a=>LX Q (Le R c r b a)) d (λb a h=>J5 d r b a h) x b a (tj f),uh d l b a g⟩
end
abbrev Rm:=Option (List (Cv×Xb×AB))
def Rm.to(Q:Yt)(r:Rm):Prop:=∃l,r=some l/\∀x∈l,Q x.1 x.2.1 x.2.2
def jA:Rm->Rm->Rm
|some a,some b=>some (a++b)
|_,_=>none
def Tz(f:Cv×Xb×AB->Rm):List (Cv×Xb×AB)->Rm
|[]=>some []
|[x]=>f x
|x::r=>jA (f x) (Tz f r)
def Yi9{Q:Yt}{a b:Rm}(h:(jA a b).to Q):a.to Q/\b.to Q:=by
 obtain⟨l,e,h⟩:=h;cases a<;>cases b<;>simp only[jA,Bu,reduceCtorEq]at e;subst e;exact⟨⟨_,rfl,λx c=>h x (List.mem_append_left _ c)⟩,⟨_,rfl,λx c=>h x (List.mem_append_right _ c)⟩⟩
def eL{Q:Yt}{f:Cv×Xb×AB->Rm}:∀{l:List (Cv×Xb×AB)},(Tz f l).to Q->∀x∈l,(f x).to Q
|[],_,x,a=>by cases a
|[y],h,x,a=>by
 rw[DW.1 a];exact h
|y::z::r,h,x,a=>by
 obtain⟨b,c⟩:=Yi9 h;rcases DA.1 a with e|a
 ·exact e▸b
 ·exact eL c x a
def oR:Rs->Rm
|some x=>some [x]
|none=>none
def Zm4(f:Xb->AB->Rm)(x:Cv×Xb×AB):Rm:=match x with
|(.normal,b,a)=>f b a
|x=>some [x]
def Zbr(n:Nat)(x:Cv×Xb×AB):Rm:=match x with
|(.exit m,b,a)=>bif decide (m=n) then some [(.normal,b,a)] else some [(.exit m,b,a)]
|x=>some [x]
def S.EW(R:C1)(L:Nat):S->Xb->AB->Rm
|.E3 _ t g _,e,f=>(Le R g t e f).map λl=>l.map λx=>(.normal,x.1,x.2)
|.seq a b,e,f=>match S.EW R L a e f with
 |some l=>Tz (Zm4 (S.EW R L b)) l
 |none=>none
|.cond c a b,e,f=>match c.ev e with
 |.d (.bool t)=>bif t then S.EW R L a e f else S.EW R L b e f
 |_=>none
|.block n a,e,f=>match S.EW R L a e f with
 |some l=>Tz (Zbr n) l
 |none=>none
|s,e,f=>oR (s.run R L e f)
def O7{Q:Yt}{r:Rs}(h:(oR r).to Q):r.to Q:=by
 obtain⟨l,e,h⟩:=h;cases r<;>simp only[oR,Bu,reduceCtorEq]at e;subst e;exact h _ (DW.2 rfl)
def Rm.mono{Q a:Yt}{r:Rm}(h:r.to Q)(b:∀e s o,Q e s o->a e s o):r.to a:=by
 obtain⟨l,e,h⟩:=h;exact⟨l,e,λx c=>b _ _ _ (h x c)⟩
def NX{P:Az}{R:C1}(q:R.ok P){L:Nat}:∀(s:S)(Q:Yt)(f:Xb)(d:AB),s.loops P->(s.EW R L f d).to Q->Co P s Q f d
|.E3 _ t F O,Q,f,d,i,h=>by
 simp only[S.EW]at h;obtain⟨l,e,h⟩:=h;rw[D9]at e;obtain⟨m,J,rfl⟩:=e;simp only[Co];exact J5 q t f d ⟨m,J,λr K=>h (.normal,r.1,r.2) (C9.2 ⟨r,K,rfl⟩)⟩
|.seq a b,Q,f,d,i,h=>by
 simp only[S.EW]at h;simp only[Co];refine NX (L:=L) q a _ f d i.1 ?_;split at h
 ·rename_i l e;rw[e];refine⟨l,rfl,λx w=>?_⟩;have j:=eL h x w;obtain⟨u,H,G⟩:=x;cases u with
  |normal=>exact NX (L:=L) q b Q H G i.2 j
  |exit n=>obtain⟨_,e,h⟩:=j;cases e;exact h _ (DW.2 rfl)
  |ret=>obtain⟨_,e,h⟩:=j;cases e;exact h _ (DW.2 rfl)
  |panic v=>obtain⟨_,e,h⟩:=j;cases e;exact h _ (DW.2 rfl)
 ·obtain⟨_,e,_⟩:=h;cases e
|.cond c a b,Q,f,d,i,h=>by
 simp only[S.EW]at h;simp only[Co];split at h
 ·rename_i t M;rw[M];cases t
  ·exact⟨λe=>(by cases e),λ_=>NX (L:=L) q b Q f d i.2 h⟩
  ·exact⟨λ_=>NX (L:=L) q a Q f d i.1 h,λe=>(by cases e)⟩
 ·obtain⟨_,e,_⟩:=h;cases e
|.block n a,Q,f,d,i,h=>by
 simp only[S.EW]at h;simp only[Co];refine NX (L:=L) q a _ f d i ?_;split at h
 ·rename_i l e;rw[e];refine⟨l,rfl,λx w=>?_⟩;have j:=eL h x w;obtain⟨u,H,G⟩:=x;cases u with
  |normal=>obtain⟨_,e,h⟩:=j;cases e;exact h _ (DW.2 rfl)
  |exit m=>
   simp only[Zbr,Cl]at j;simp only[Yw];by_cases z:m=n
   ·simp only[z,decide_true,Cz]at j⊢;obtain⟨_,e,h⟩:=j;cases e;exact h _ (DW.2 rfl)
   ·simp only[z,decide_false,BF,Ci]at j⊢;obtain⟨_,e,h⟩:=j;cases e;exact h _ (DW.2 rfl)
  |ret=>obtain⟨_,e,h⟩:=j;cases e;exact h _ (DW.2 rfl)
  |panic v=>obtain⟨_,e,h⟩:=j;cases e;exact h _ (DW.2 rfl)
 ·obtain⟨_,e,_⟩:=h;cases e
|.rg o l k p,Q,f,d,i,h=>S.A5 (L:=L) q (.rg o l k p) Q f d i (O7 h)
|.skip,Q,f,d,i,h=>S.A5 (L:=L) q .skip Q f d i (O7 h)
|.loop k a,Q,f,d,i,h=>S.A5 (L:=L) q (.loop k a) Q f d i (O7 h)
|.exit n,Q,f,d,i,h=>S.A5 (L:=L) q (.exit n) Q f d i (O7 h)
|.ret,Q,f,d,i,h=>S.A5 (L:=L) q .ret Q f d i (O7 h)
|.E4 t N g x y k,Q,f,d,i,h=>S.A5 (L:=L) q (.E4 t N g x y k) Q f d i (O7 h)
def Sm{α:Type}(eq:α->α->Bool)(f:Rs->Option α):Rm->Option α
|none=>none
|some l=>go l
where go:List (Cv×Xb×AB)->Option α
|[]=>none
|[x]=>f (some x)
|x::r=>match f (some x),go r with
 |some a,some b=>bif eq a b then some a else none
 |_,_=>none
def Xz9{d:Type}{eq:d->d->Bool}(g:∀x y,eq x y=true->x=y){f:Rs->Option d}{a:d}:∀{l:List (Cv×Xb×AB)},Sm.go eq f l=some a->∀x∈l,f (some x)=some a
|[],h,x,c=>by cases c
|[y],h,x,c=>by rw[DW.1 c];exact h
|y::z::r,h,x,c=>by
 simp only[Sm.go]at h;split at h
 ·rename_i m b j k;rw[Cl]at h;split at h
  ·rename_i e;cases h;rcases DA.1 c with i|c
   ·exact i▸j
   ·exact(g _ _ e)▸Xz9 g k x c
  ·cases h
 ·cases h
def qV{b:Type}{eq:b->b->Bool}(c:∀x y,eq x y=true->x=y){f:Rs->Option b}{a:b}{r:Rm}{Q:Yt}(h:Sm eq f r=some a)(d:∀x:Cv×Xb×AB,f (some x)=some a->Rs.to Q (some x)):r.to Q:=by
 cases r with
 |none=>cases h
 |some l=>exact⟨l,rfl,λx e=>d x (Xz9 c h x e)⟩
def A7.Bg:A7->A7->Bool
|.ret v,.ret u=>V.Bg v u
|.panic v,.panic u=>V.Bg v u
|_,_=>false
def jG(x y:A7×AB):Bool:=A7.Bg x.1 y.1&&Mv x.2 y.2
def Yj3(x y:A7×AB)(h:jG x y=true):x=y:=by
 simp only[jG,As]at h;refine Prod.ext ?_ (Ry _ _ h.2);have c:=h.1;generalize x.1=a at c⊢;generalize y.1=b at c⊢;cases a<;>cases b<;>simp only[A7.Bg,BF]at c
 ·rw[V.Bf _ _ c]
 ·rw[V.Bf _ _ c]
inductive FI where
|pl (s:S) (rs:List RV) (n:Nat)
|df (s:DK) (rs:List RV) (n:Nat)
|rc (its:List It) (keep:List Nat) (k:Nat) (s:S) (n:Nat)
 |kp (s:S) (rs:List RV) (n:Nat)
 |pr (s:S) (rs:List RV) (n:Nat)
 |br (s:S) (rs:List RV) (n:Nat)
def FI.ok(p:Program)(f:Nat):FI->Bool
|.pl s a n=>Xr p f n s a
|.kp s a n=>Xr p f n s a
|.pr s a n=>Hh p f n s a
|.br s a n=>Hh p f n s a
|.df s a n=>PU p f n s a
|.rc b _ k s n=>PS p f n k b s
def DK.DC:DK->Bool
|.pre s r=>s.DC&&r.DC
|.Dm _ _ _ s=>s.DC
def DK.loops(P:Az):DK->Prop
|.pre s r=>s.loops P/\r.loops P
|.Dm _ _ _ s=>s.loops P
def DK.BY{P:Az}:∀s:DK,s.DC=true->s.loops P
|.pre s r,h=>by simp only[DK.DC,As]at h;exact⟨S.BY s h.1,DK.BY r h.2⟩
|.Dm _ _ _ s,h=>S.BY s h
def FI.nr:FI->Bool
|.pl s _ _|.kp s _ _|.pr s _ _|.br s _ _=>s.DC
|.df s _ _=>s.DC
|.rc _ _ _ s _=>s.DC
def FI.KY(P:Az):FI->Prop
|.pl s _ _|.kp s _ _|.pr s _ _|.br s _ _=>s.loops P
|.df s _ _=>s.loops P
|.rc _ _ _ s _=>s.loops P
def FI.Ft{P:Az}(x:FI)(h:x.nr=true):x.KY P:=by
 cases x<;>first|exact S.BY _ h|exact DK.BY _ h
abbrev FT:=List (Nat×FI)
def Vo:FT->Nat->Option FI
|[],_=>none
|(j,x)::r,k=>bif Nat.beq j k then some x else Vo r k
def FT.KY(P:Az)(F:FT):Prop:=∀f x,Vo F f=some x->x.KY P
def Rdj{P:Az}:FT.KY P []:=λf x h=>by cases h
def Rdk{P:Az}{f:Nat}{x:FI}{F:FT}(h:x.KY P)(b:FT.KY P F):FT.KY P ((f,x)::F):=λg y a=>by
 simp only[Vo]at a;rw[Cl]at a;split at a
 ·cases a;exact h
 ·exact b g y a
def FT.Ft{P:Az}:∀(F:FT),F.all (λe=>e.2.nr)=true->FT.KY P F
|[],_=>Rdj
|(f,x)::r,h=>by
 simp only[List.all_cons,As]at h;exact Rdk (x.Ft h.1) (FT.Ft r h.2)
def FT.ok(p:Program)(F:FT):Prop:=∀f x,Vo F f=some x->FI.ok p f x=true/\Xd p f=true
def Rdl{p:Program}:FT.ok p []:=λf x h=>by cases h
def qU{p:Program}{f:Nat}{x:FI}{F:FT}(h:FI.ok p f x=true)(c:Xd p f=true)(b:FT.ok p F):FT.ok p ((f,x)::F):=λg y a=>by
 simp only[Vo]at a;rw[Cl]at a;split at a
 next e=>cases a;have e:f=g:=CN e;subst e;exact⟨h,c⟩
 ·exact b g y a
def Ed(p:Program)(e:Nat×FI):Bool:=FI.ok p e.1 e.2&&Xd p e.1
def ZP{p:Program}:∀{F:FT},F.all (Ed p)=true->FT.ok p F
|[],_=>Rdl
|(f,x)::r,h=>by
 simp only[List.all_cons,As,Ed]at h;exact qU h.1.1 h.1.2 (ZP h.2)
def Rdo{p:Program}:∀{l F:FT},FT.ok p l->FT.ok p F->FT.ok p (l++F)
|[],_,_,h=>h
|(f,x)::r,F,c,h=>λg y a=>by
 simp only[List.cons_append,Vo]at a;rw[Cl]at a;split at a
 next e=>exact c g y (by simp only[Vo,e];simpa using a)
 ·rename_i e;cases b:Vo r g with
  |some z=>
   have i:Vo (r++F) g=some z:=by
    clear a c h;induction r with
    |nil=>cases b
    |cons q r k=>
     obtain⟨j,w⟩:=q;simp only[List.cons_append,Vo]at b⊢;cases d:Nat.beq j g<;>simp only[d,cond]at b⊢
     ·exact k b
     ·exact b
   rw[i]at a;cases a;exact c g _ (by simp only[Vo];rw[Cl,Af e];exact b)
  |none=>
   have i:Vo (r++F) g=Vo F g:=by
    clear a c h;induction r with
    |nil=>rfl
    |cons q r k=>
     obtain⟨j,w⟩:=q;simp only[List.cons_append,Vo]at b⊢;cases d:Nat.beq j g<;>simp only[d,cond]at b⊢
     ·exact k b
     ·cases b
   rw[i]at a;exact h g y a
def FO{p:Program}{F:FT}(n:Nat)(h:(F.take n).all (Ed p)=true)(a:FT.ok p (F.drop n)):FT.ok p F:=by
 have:=Rdo (ZP h) a
 rwa [Kh]at this
def RV.run(a:Xb)(d:AB):RV->Option V
|.t k=>some (Ay a k)
|.c k n b=>P9 d n b (Ay a k)
def ON(b:Xb)(a:AB):List RV->Option (List V)
|[]=>some []
|x::r=>match x.run b a with
 |some v=>(ON b a r).map (v::·)
 |none=>none
def JO:List V->AB->List V×AB
|[],a=>([],a)
|v::r,a=>match DU a v with
 |some (d,b)=>let p:=JO r b;(.d d::p.1,p.2)
 |none=>let p:=JO r a;(v::p.1,p.2)
def MZ(n:Nat)(c:List V)(b:AB):Option AB:=
 let a:=LF c++JP b
 bif !BO (AE n a) c&&AH (AE n a) (Xh (AE n a) b) then some (Xh (AE n a) b) else none
def Pu(n:Nat)(d:List RV)(e:Xb)(a:AB):Option (A7×AB):=match ON e a d with
|some c=>(MZ n (JO c a).1 (JO c a).2).map λb=>(.ret (W8 (JO c a).1),b)
|none=>none
def aT(n:Nat):AB->List Nat
|[]=>[]
|(j,x)::r=>bif decide (j<n) then JP [(j,x)]++aT n r else aT n r
def l6(a:List Nat):AB->List Nat
|[]=>[]
|(j,x)::r=>bif a.contains j then JP [(j,x)]++l6 a r else l6 a r
def Yel(b:AB):Nat->List Nat->List Nat
|0,a=>a
|k+1,a=>Yel b k (a++l6 a b)
def aK(n:Nat)(c:List V)(b:AB):Option AB:=
 let a:=Yel b 3 (LF c++aT n b)
 bif !BO (AE n a) c&&AH (AE n a) (Xh (AE n a) b) then some (Xh (AE n a) b) else none
def XQ(n:Nat)(d:List RV)(e:Xb)(a:AB):Option (A7×AB):=match ON e a d with
|some c=>(aK n (JO c a).1 (JO c a).2).map λb=>(.ret (W8 (JO c a).1),b)
|none=>none
def ZZ(n:Nat)(c:List RV):Rs->Option (A7×AB)
|some (.normal,b,a)=>XQ n c b a
|some (.ret,b,a)=>XQ n c b a
|_=>none
def lH(n:Nat)(d:List RV):Rs->Option (A7×AB)
|some (.normal,c,a)=>Pu n d c a
|some (.ret,c,a)=>Pu n d c a
|some (.panic v,_,a)=>(MZ n [v] a).map λb=>(.panic v,b)
|_=>none
def aB(n:Nat)(c:List RV):Rs->Option (A7×AB)
|some (.normal,b,a)=>Pu n c b a
|some (.ret,b,a)=>Pu n c b a
|_=>none
def YP(n:Nat)(d:List RV)(e:Xb)(a:AB):Option (A7×AB):=match ON e a d with
|some c=>(MZ n c a).map λb=>(.ret (W8 c),b)
|none=>none
def aA(n:Nat)(d:List RV):Rs->Option (A7×AB)
|some (.normal,c,a)=>YP n d c a
|some (.ret,c,a)=>YP n d c a
|some (.panic v,_,a)=>(MZ n [v] a).map λb=>(.panic v,b)
|_=>none
def Mm(b:List RV)(c:Xb)(a:AB):Option V:=match ON c a b with
|some e=>(Da a e).map λp=>W8 (p.1.map .d)
|none=>none
def SO(c:List RV):Rs->Option V
|some (.normal,b,a)=>Mm c b a
|some (.ret,b,a)=>Mm c b a
|_=>none
def So(R:C1)(L:Nat)(F:FT)(g:Nat)(h:List V)(e:AB)(i:Option V):Option AB:=match Vo F g with
|some (.rc c b k s n)=>bif Nat.beq n h.length then
 (match Ly R c ((k,i.getD (.d .Bo))::Uo 0 h) e with
 |.ok j f=>(match s.run R L (Xj j b) f with
  |some (.normal,_,a)=>MZ (fresh e) [] a
  |some (.ret,_,a)=>MZ (fresh e) [] a
  |_=>none)
 |_=>none)
 else none
|_=>none
def V.NI:V->Bool
|.iface _ _=>true
|.d (.iface _ _)=>true
|_=>false
def lQ(R:C1)(L:Nat)(F:FT)(g:Nat)(d:List V)(e:List RV):Rs->Option V
|some (.normal,c,b)=>(So R L F g d b none).bind λa=>Mm e c a
|some (.ret,c,b)=>(So R L F g d b none).bind λa=>Mm e c a
|some (.panic v,c,b)=>bif v.NI then (So R L F g d b (some v)).bind λa=>Mm e c a else none
|_=>none
def Sw(R:C1)(L:Nat)(F:FT)(f:List RV):DK->Xb->AB->Option V
|.pre s r,h,e=>match s.run R L h e with
 |some (.normal,a,b)=>Sw R L F f r a b
 |some (.ret,a,b)=>Mm f a b
 |_=>none
|.Dm d c k s,h,e=>match Ly R d h e with
 |.ok a b=>(match Ay (Xj a c) k with
  |.fn g j i=>bif R.ca g then lQ R L F g (j++i) f (s.run R L (Xj a c) b) else none
  |_=>none)
 |_=>none
def YV(R:C1)(L:Nat)(F:FT)(f:Nat)(a:List D):Option V:=match Vo F f with
|some (.pl s b n)=>bif Nat.beq n a.length then SO b (s.run R L (Uo 0 (a.map .d)) []) else none
|some (.pr s b n)=>bif Nat.beq n a.length then SO b (s.run R L (Uo 0 (a.map .d)) []) else none
|some (.br s b n)=>bif Nat.beq n a.length then Sm V.Bg (SO b) (s.EW R L (Uo 0 (a.map .d)) []) else none
|some (.df s b n)=>bif Nat.beq n a.length then Sw R L F b s (Uo 0 (a.map .d)) [] else none
|_=>none
def Ytj(o:Option V):Option V:=match o with
|some v=>bif v.FZ then some v else none
|none=>none
def YW(X R:C1)(L:Nat)(F:FT)(f:Nat)(a:List D)(b:AB):Option V:=match X.pc f (a.map .d) b with
|some v=>some v
|none=>YV R L F f a
def po(X R:C1)(L:Nat)(F:FT)(f:Nat)(c:List V)(b:AB):Option V:=match Bt c with
|some a=>YW X R L F f a b
|none=>match MU b 12 c with
 |some a=>Ytj (YW X R L F f a [])
 |none=>none
def oW(R:C1)(L:Nat)(F:FT)(f:Nat)(b:List V)(a:AB):Option (A7×AB):=match Vo F f with
|some (.pl s c n)=>bif Nat.beq n b.length then lH (fresh a) c (s.run R L (Uo 0 b) a) else none
|some (.kp s c n)=>bif Nat.beq n b.length then aA (fresh a) c (s.run R L (Uo 0 b) a) else none
|some (.pr s c n)=>bif Nat.beq n b.length then aB (fresh a) c (s.run R L (Uo 0 b) a) else none
|some (.br s c n)=>bif Nat.beq n b.length then Sm jG (ZZ (fresh a) c) (s.EW R L (Uo 0 b) a) else none
|some (.df _ _ _)=>match Bt b with
 |some d=>(YV R L F f d).map λv=>(.ret v,a)
 |none=>none
|_=>none
def DN(L:Nat)(F:FT)(X:C1):Nat->C1
|0=>X
|n+1=>⟨λf b a=>match X.call f b a with
 |some r=>some r
 |none=>oW (DN L F X n) L F f b a,
 λf b a=>po X (DN L F X n) L F f b a,
 λf=>(Vo F f).isSome||X.ca f,X.gl,λid b a=>py (DN L F X n) L X.lt id b a,X.lt,X.xc⟩
section
variable {P:Az} {R:C1} {L:Nat} {F:FT}
def Ui{e:Xb}{d:AB}:∀(i:List RV)(K:List V->Prop)(a:List V),ON e d i=some a->K a->Va e d i K
|[],K,a,h,f=>by cases h;exact f
|x::r,K,a,h,f=>by
 simp only[ON]at h;split at h
 ·rename_i v b;rw[D9]at h;obtain⟨l,p,rfl⟩:=h;simp only[Va];have g:=Ui r (λa=>K (v::a)) l p f;cases x with
  |t k=>simp only[RV.run,Bu]at b;subst b;exact g
  |c k n j=>
   simp only[RV.run]at b;simp only[RV.wp];have m:(C.ld n j (.t 0)).run [(0,Ay e k)] d=some v:=by simpa[C.run,sD,rT,A.ev,Ay]using b
   have o:=C.A5 (K:=λv=>Va e d r λa=>K (v::a)) m g;simpa[C.wp,A.ev,Ay]using o
 ·cases h
def Q7:∀(c:List V)(a:AB)(K:List V->AB->Prop),K (JO c a).1 (JO c a).2->FG c a K
|[],a,K,h=>h
|v::r,a,K,h=>by
 simp only[JO]at h;simp only[FG];split at h
 next d b e=>rw[e];exact Q7 r b _ h
 next e=>rw[e];exact Q7 r a _ h
def Zm{n:Nat}{d:List V}{c b:AB}{K:AB->Prop}(h:MZ n d c=some b)(e:K b):X0 n K d c:=by
 unfold MZ at h;rw[Cl]at h;split at h
 next a=>simp only[As,El]at a;cases h;exact⟨_,a.1,a.2,e⟩
 ·cases h
def Je{n:Nat}{d:List RV}{f:Xb}{c b:AB}{o:A7}{K:A7->AB->Prop}(h:Pu n d f c=some (o,b))(g:K o b):Va f c d λa=>FG a c λa c=>X0 n (K (.ret (W8 a))) a c:=by
 unfold Pu at h;split at h
 next a j=>rw[D9]at h;obtain⟨k,i,e⟩:=h;cases e;exact Ui d _ a j (Q7 a c _ (Zm i g))
 ·cases h
def Xpv{n:Nat}{c:List RV}{r:Rs}{o:A7}{b:AB}{K:A7->AB->Prop}(h:lH n c r=some (o,b))(a:K o b):r.to (Jh n c K):=by
 unfold lH at h;split at h
 ·exact Je h a
 ·exact Je h a
 ·rw[D9]at h;obtain⟨f,d,e⟩:=h;cases e;exact Zm d a
 ·cases h
def Xmk{n:Nat}{c:List RV}{r:Rs}{o:A7}{b:AB}{K:A7->AB->Prop}(h:aB n c r=some (o,b))(a:K o b):r.to (ZY n c K):=by
 unfold aB at h;split at h
 ·exact Je h a
 ·exact Je h a
 ·cases h
def Xnt{n:Nat}{d:List V}{c b:AB}{K:AB->Prop}(h:aK n d c=some b)(e:K b):X0 n K d c:=by
 unfold aK at h;rw[Cl]at h;split at h
 next a=>simp only[As,El]at a;cases h;exact⟨_,a.1,a.2,e⟩
 ·cases h
def vv{n:Nat}{d:List RV}{f:Xb}{c b:AB}{o:A7}{K:A7->AB->Prop}(h:XQ n d f c=some (o,b))(g:K o b):Va f c d λa=>FG a c λa c=>X0 n (K (.ret (W8 a))) a c:=by
 unfold XQ at h;split at h
 next a j=>rw[D9]at h;obtain⟨k,i,e⟩:=h;cases e;exact Ui d _ a j (Q7 a c _ (Xnt i g))
 ·cases h
def Xmi{n:Nat}{c:List RV}{r:Rs}{o:A7}{b:AB}{K:A7->AB->Prop}(h:ZZ n c r=some (o,b))(a:K o b):r.to (ZY n c K):=by
 unfold ZZ at h;split at h
 ·exact vv h a
 ·exact vv h a
 ·cases h
def u5{n:Nat}{d:List RV}{f:Xb}{c b:AB}{o:A7}{K:A7->AB->Prop}(h:YP n d f c=some (o,b))(g:K o b):Va f c d λa=>X0 n (K (.ret (W8 a))) a c:=by
 unfold YP at h;split at h
 next a j=>rw[D9]at h;obtain⟨k,i,e⟩:=h;cases e;exact Ui d _ a j (Zm i g)
 ·cases h
def Xmj{n:Nat}{c:List RV}{r:Rs}{o:A7}{b:AB}{K:A7->AB->Prop}(h:aA n c r=some (o,b))(a:K o b):r.to (H9 n c K):=by
 unfold aA at h;split at h
 ·exact u5 h a
 ·exact u5 h a
 ·rw[D9]at h;obtain⟨f,d,e⟩:=h;cases e;exact Zm d a
 ·cases h
def Z6{b:List RV}{e:Xb}{a:AB}{v:V}{K:V->Prop}(h:Mm b e a=some v)(f:K v):Va e a b λc=>Vl (λl _=>K (W8 (l.map .d))) (Da a c):=by
 unfold Mm at h;split at h
 next c i=>rw[D9]at h;obtain⟨p,g,rfl⟩:=h;refine Ui b _ c i ?_;rw[g];exact f
 ·cases h
def J7{b:List RV}{r:Rs}{v:V}{K:V->Prop}(h:SO b r=some v)(a:K v):r.to (IF b K):=by
 unfold SO at h;split at h
 ·exact Z6 h a
 ·exact Z6 h a
 ·cases h
variable (hm:P.p.follows .mixedOrders=true) (hF:FT.ok P.p F) (hLp:FT.KY P F) (hR:R.ok P)
include hm hF hLp hR
theorem dT{g:Nat}{f:List V}{l b:AB}{m:Option V}{K:AB->Prop}(h:So R L F g f l m=some b)(i:K b):B6 P g f l m K:=by
 unfold So at h;split at h
 ·rename_i p a k s n j;rw[Cl]at h;split at h
  ·rename_i e;have e:n=f.length:=CN e;subst e;have c:=(hF g _ j).1;simp only[FI.ok]at c;refine vZ (keep:=a) hm c (Wd hR _ _ _ ?_);split at h
   ·rename_i r q o;rw[o];refine S.A5 (L:=L) hR s _ _ _ (hLp g _ j) ?_;split at h
    next d=>rw[d];exact Zm h i
    next d=>rw[d];exact Zm h i
    ·cases h
   ·cases h
  ·cases h
 ·cases h
theorem Xp1{g:Nat}{f:List V}{i:List RV}{r:Rs}{v:V}{K:V->Prop}(h:lQ R L F g f i r=some v)(d:K v):r.to (K2 P g f i K):=by
 unfold lQ at h;split at h
 ·rw[H7]at h;obtain⟨b,a,c⟩:=h;exact dT hm hF hLp hR a (Z6 c d)
 ·rw[H7]at h;obtain⟨b,a,c⟩:=h;exact dT hm hF hLp hR a (Z6 c d)
 ·rw[Cl]at h;split at h
  ·rename_i e;rw[H7]at h;obtain⟨b,a,c⟩:=h;refine⟨?_,dT hm hF hLp hR a (Z6 c d)⟩;unfold V.NI at e;split at e
   ·exact⟨_,_,.inl rfl⟩
   ·exact⟨_,.any,.inr ⟨_,rfl⟩⟩
   ·cases e
  ·cases h
 ·cases h
theorem vk{i:List RV}{K:V->Prop}:∀(s:DK)(d:Xb)(c:AB)(v:V),s.loops P->Sw R L F i s d c=some v->K v->KR P i K s d c
|.pre s r,d,c,v,b,h,a=>by
 simp only[Sw]at h;simp only[KR];refine S.A5 (L:=L) hR s _ _ _ b.1 ?_;split at h
 next e=>rw[e];exact vk r _ _ v b.2 h a
 next e=>rw[e];exact Z6 h a
 ·cases h
|.Dm m f k s,d,c,v,b,h,a=>by
 simp only[Sw]at h;simp only[KR];refine Wd hR _ _ _ ?_;split at h
 ·rename_i o n e;rw[e];simp only[Rq.to];split at h
  ·rename_i g q p j;rw[j];rw[Cl]at h;split at h
   next l=>exact⟨hR.ca _ l,S.A5 (L:=L) hR s _ _ _ b (Xp1 hm hF hLp hR h a)⟩
   ·cases h
  ·cases h
 ·cases h
theorem xg{f:Nat}{b:List D}{v:V}{j:AB}{K:V->Prop}(h:YV R L F f b=some v)(c:K v):AU P f (b.map .d) j K:=by
 unfold YV at h;split at h
 ·rename_i s g n a;rw[Cl]at h;split at h
  next e=>have e:n=b.length:=CN e;subst e;exact vR hm (hF f _ a).1 (S.A5 (L:=L) hR s _ _ _ (hLp f _ a) (J7 h c))
  ·cases h
 ·rename_i s g n a;rw[Cl]at h;split at h
  next e=>have e:n=b.length:=CN e;subst e;exact J6 hm (hF f _ a).1 (S.A5 (L:=L) hR s _ _ _ (hLp f _ a) (J7 h c))
  ·cases h
 ·rename_i s g n a;rw[Cl]at h;split at h
  next e=>have e:n=b.length:=CN e;subst e;exact J6 hm (hF f _ a).1 (NX (L:=L) hR s _ _ _ (hLp f _ a) (qV V.Bf h λx i=>J7 i c))
  ·cases h
 ·rename_i s g n a;rw[Cl]at h;split at h
  next e=>have e:n=b.length:=CN e;subst e;exact vG hm (hF f _ a).1 (vk hm hF hLp hR s _ _ v (hLp f _ a) h c)
  ·cases h
 ·cases h
theorem xi{X:C1}(g:X.ok P){f:Nat}{a:List D}{v:V}{c:AB}{K:V->Prop}(h:YW X R L F f a c=some v)(b:K v):AU P f (a.map .d) c K:=by
 unfold YW at h;split at h
 next r i=>cases h;exact(g.pc _ _ _ _ i).mono λj e=>by subst e;exact b
 ·exact xg hm hF hLp hR h b
theorem X60{X:C1}(c:X.ok P){f:Nat}{g:List V}{v:V}{d:AB}(h:po X R L F f g d=some v):AU P f g d λe=>e=v:=by
 unfold po at h;split at h
 next i a=>rw[V.Bi a];exact xi hm hF hLp hR c h rfl
 ·split at h
  ·rename_i i a;unfold Ytj at h;split at h
   ·rename_i e j;rw[Cl]at h;split at h
    next b=>cases h;exact Ov a (xi hm hF hLp hR c j ⟨b,rfl⟩)
    ·cases h
   ·cases h
  ·cases h
theorem Xz6{f:Nat}{c:List V}{o:A7}{g b:AB}(h:oW R L F f c g=some (o,b)):AV P f c g λm i=>m=o/\i=b:=by
 unfold oW at h;split at h
 ·rename_i s d n a;rw[Cl]at h;split at h
  next e=>have e:n=c.length:=CN e;subst e;exact vI hm (hF f _ a).1 (S.A5 (L:=L) hR s _ _ _ (hLp f _ a) (Xpv h ⟨rfl,rfl⟩))
  ·cases h
 ·rename_i s d n a;rw[Cl]at h;split at h
  next e=>have e:n=c.length:=CN e;subst e;exact u0 hm (hF f _ a).1 (S.A5 (L:=L) hR s _ _ _ (hLp f _ a) (Xmj h ⟨rfl,rfl⟩))
  ·cases h
 ·rename_i s d n a;rw[Cl]at h;split at h
  next e=>have e:n=c.length:=CN e;subst e;exact u3 hm (hF f _ a).1 (S.A5 (L:=L) hR s _ _ _ (hLp f _ a) (Xmk h ⟨rfl,rfl⟩))
  ·cases h
 ·rename_i s d n a;rw[Cl]at h;split at h
  next e=>have e:n=c.length:=CN e;subst e;exact u3 hm (hF f _ a).1 (NX (L:=L) hR s _ _ _ (hLp f _ a) (qV Yj3 h λx l=>Xmi l ⟨rfl,rfl⟩))
  ·cases h
 ·split at h
  next p j=>rw[D9]at h;obtain⟨v,k,e⟩:=h;cases e;rw[V.Bi j];exact AU.Bm (xg hm hF hLp hR k ⟨rfl,rfl⟩)
  ·cases h
 ·cases h
end
def Ytp{p:Program}{F:FT}(a:FT.ok p F)(f:Nat)(h:(Vo F f).isSome=true):Xd p f=true:=by
 obtain⟨x,b⟩:=JE.1 h;exact(a f x b).2
def SB{P:Az}{L:Nat}{F:FT}{X:C1}(i:P.p.follows .mixedOrders=true)(e:FT.ok P.p F)(a:FT.KY P F)(c:X.ok P)(d:∀j m x y,X.lt j=some (m,x,y)->V7 P j m x y/\x.DC=true/\y.DC=true):∀n,(DN L F X n).ok P
|0=>c
|n+1=>by
 refine⟨λf l k o b h=>?_,λf l k v h=>?_,λf h=>?_,λg x h=>c.gl g x h,λid l k o b h=>?_,λf l k v b h=>c.xc f l k v b h⟩
 ·simp only[DN]at h;split at h
  next r q=>cases h;exact c.call _ _ _ _ _ q
  ·exact Xz6 i e a (SB i e a c d n) h
 ·simp only[DN]at h;exact X60 i e a (SB i e a c d n) c h
 ·simp only[DN,MW]at h;rcases h with h|h
  ·exact Ytp e f h
  ·exact c.ca f h
 ·simp only[DN]at h;exact X8v i (SB i e a c d n) d h
def oL:FT:=[(72,.df jd [.c 2 1 false,.c 3 1 false,.c 4 1 false] 1),
 (99,.pl jl [.t 2,.t 3] 1),
 (137,.rc gZ r8 6 mj 3),
 (138,.pl yo [.c 0 256 true] 0),
 (139,.pl mm [] 1),
 (140,.pl mn [] 1),
 (141,.pl mq [] 1),
 (142,.pl mr [] 1),
 (143,.pl mu [] 1),
 (186,.pl mK [.t 2] 1),
 (198,.pl mL [.t 2] 1),
 (199,.pl mM [.t 4] 2),
 (200,.pl mN [.t 4,.t 5] 2),
 (202,.pl mO [.t 2] 1),
 (229,.pl ng [.t 4] 2),
 (230,.pl nh [.t 3] 2),
 (231,.pl ni [] 3),
 (232,.pl nj [.t 3] 2),
 (233,.pl nn [.t 4] 2),
 (234,.pl np [.t 2] 1),
 (272,.pl nq [.t 4] 2),
 (6,.pl ot [.t 2] 1),
 (11,.pl yq [.t 2] 1),
 (9,.pl o9 [.t 4,.t 5] 2),
 (30,.pl jP [.t 4] 2),
 (36,.pl jV [.t 6,.t 7] 3),
 (37,.pl jW [.t 2] 1),
 (57,.pl j0 [.c 6 6 true,.t 7] 3),
 (64,.pl j7 [.t 4] 2),
 (68,.pl kB [.t 4] 2),
 (69,.pl kC [.t 4] 3),
 (106,.pl mA [.t 4] 2),
 (125,.pl ll [.t 4] 2),
 (128,.pl mc [.t 6] 3),
 (130,.pl mg [.c 0 5 true] 0),
 (171,.pl nD [.t 2] 1),
 (173,.pl nH [.t 2] 1),
 (219,.pl nW [.t 4] 2),
 (220,.pl nX [.t 4] 2),
 (221,.pl nY [.t 4] 2),
 (222,.pl nZ [.t 4] 2),
 (223,.pl nc [.t 2] 1),
 (8,.pl oy [.t 2] 1),
 (10,.pl jJ [.t 2] 1),
 (26,.pl jZ [.t 2] 1),
 (27,.pl ja [.t 3] 2),
 (28,.pl jb [.t 2] 1),
 (29,.pl jO [.t 4] 2),
 (31,.pl jQ [.t 4] 2),
 (32,.pl jR [.t 4] 2),
 (33,.pl jS [.t 4] 2),
 (34,.pl jT [.t 4] 2),
 (35,.pl jU [.t 4] 2),
 (38,.pl jX [.t 4] 2),
 (53,.pl jw [.t 4] 2),
 (54,.pl jx [.t 2] 1),
 (55,.pl jy [.t 2] 1),
 (56,.pl jz [.t 4] 2),
 (58,.pl j1 [.t 6] 3),
 (59,.pl j2 [.t 2] 1),
 (60,.pl j3 [.t 4] 2),
 (61,.pl j4 [.t 3] 2),
 (62,.pl j5 [.t 4] 2),
 (63,.pl j6 [.t 3] 2),
 (65,.pl j8 [.t 4] 2),
 (66,.pl j9 [.t 3] 2),
 (67,.pl kA [.t 3] 2),
 (70,.pl jc [.t 4] 2),
 (116,.pl lT [.t 4] 2),
 (117,.pl lU [.t 6] 3),
 (126,.pl mY [.c 6 6 true,.t 7] 3),
 (127,.pl mZ [.t 2] 1),
 (129,.pl mf [.t 4] 2),
 (131,.pl mh [.t 4] 2),
 (216,.pl nR [.t 8] 4),
 (24,.pl jN [.t 2] 1),
 (49,.pl js [.t 4] 2),
 (81,.kp je [.t 2,.t 3] 1),
 (165,.pl mw [.t 4,.t 5] 2),
 (166,.pl my [.t 2] 1),
 (167,.pl yp [.t 4,.t 5] 2),
 (168,.pl nA [.t 2] 1),
 (169,.pl nB [.t 4,.t 5] 2),
 (170,.pl nC [.t 4,.t 5] 2),
 (172,.pl nE [.t 4,.t 5] 2),
 (174,.pl nI [.t 4,.t 5] 2),
 (175,.pl nJ [.t 2] 1),
 (176,.pl nK [.t 4] 2),
 (89,.pl jg [] 2),
 (90,.pl jh [] 3),
 (91,.pl ji [] 2),
 (93,.pl jk [] 2),
 (180,.pl nL [] 4),
 (41,.df jm [.c 2 6 true,.c 3 1 false] 1),
 (82,.rc aX Yey 5 jf 2),
 (21,.pl jK [.t 2] 1),
 (22,.pl jL [.t 2] 1),
 (45,.pl jn [.t 4] 2),
 (46,.pl jo [.t 4] 2),
 (48,.pl jr [.t 6] 3),
 (107,.pl mB [.t 4] 2),
 (108,.pl mD [.t 6] 3),
 (109,.pl mE [.t 4] 2),
 (110,.pl mF [.t 6] 3),
 (111,.pl mG [.t 4] 2),
 (112,.pl mH [.t 6] 3),
 (113,.pl mI [.t 4] 2),
 (114,.pl mJ [.t 6] 3),
 (115,.pl lS [.t 4] 2),
 (207,.pl mQ [.t 6] 3),
 (208,.br mT [.t 4] 2),
 (209,.pl mV [.t 6] 3),
 (210,.pl mW [.t 4] 2),
 (211,.pl mX [.t 4] 2),
 (212,.pl nN [.t 4] 2),
 (213,.pl nO [.t 4] 2),
 (214,.pl nP [.t 4] 2),
 (215,.pl nQ [.t 4] 2),
 (7,.pl ou [.c 2 7 true,.t 3] 1),
 (23,.pl jM [.t 2] 1),
 (25,.pl jY [.t 2,.t 3,.t 4] 1),
 (47,.pl jq [.t 2] 1),
 (50,.kp jt [.c 2 2 true,.t 3] 1),
 (51,.pl ju [.t 2] 1),
 (52,.pl jv [.t 2] 1),
 (118,.pl lW [.t 4] 2),
 (119,.pr PW [.t 4] 2),
 (120,.br lX [] 2),
 (121,.pl lY [.t 2] 1),
 (122,.pl lZ [] 2),
 (123,.pl lj [.t 2] 1),
 (124,.pl yn [.t 2] 1),
 (217,.pl nT [] 2),
 (218,.pl nU [.t 6] 3),
 (320,.pl ns [.t 6] 3),
 (321,.pl nt [.t 2] 1),
 (322,.pl nu [] 2),
 (324,.pl nv [] 3),
 (3,.pl oq [.t 2] 1),
 (12,.pl yr [.t 2] 1),
 (20,.pl Zio [.t 4] 2),
 (14,.pl yt [.t 4] 2),
 (17,.pl Zim [.c 2 7 true,.t 3,.t 4] 1),
 (19,.pl Zin [.t 4] 2),
 (40,.df Zip [.c 2 6 true,.c 3 1 false,.c 4 1 false] 1),
 (42,.pl Ziq [.t 2,.t 3] 1),
 (44,.pl Zir [.t 4] 2),
 (73,.rc Yuc Yub 6 Zis 3),
 (74,.pl Zit [] 1),
 (75,.pl Ziu [] 1),
 (76,.pl Ziv [] 1),
 (77,.pl Ziw [] 1),
 (78,.pl Zix [] 1),
 (79,.pl Ziy [] 1),
 (80,.pl Ziz [] 2),
 (83,.pl Zi0 [.t 2] 1),
 (84,.pl Zi1 [.t 2] 1),
 (85,.pl Zi2 [.t 2] 1),
 (86,.pl Zi3 [.t 2] 1),
 (87,.pl Zi4 [.t 2] 1),
 (88,.pl Zi5 [.t 2] 1),
 (94,.pl Zi6 [.t 2] 1),
 (95,.pl Zi7 [] 2),
 (96,.pl Zi8 [] 2),
 (97,.pl Zi9 [] 2),
 (98,.pl Zja [] 2),
 (101,.pl Y2p [.t 4] 2),
 (102,.pl Y2q [.t 4] 2),
 (103,.pl Y2r [.t 4] 2),
 (104,.pl Y2s [.t 4] 2),
 (105,.pl Y2t [.t 4] 2),
 (144,.pl Y2u [] 3),
 (145,.pl Y2v [] 2),
 (146,.pl Y2w [.t 2] 1),
 (147,.pl Y2x [] 2),
 (148,.pl Y2y [.t 6] 3),
 (149,.pl Y2z [.t 4] 2),
 (150,.pl Y20 [.c 2 4 true] 1),
 (151,.pl Y21 [.t 6] 3),
 (152,.pl Y22 [.c 2 11 true] 1),
 (153,.pl Y23 [.c 2 4 true] 1),
 (154,.pl Y24 [.t 8] 4),
 (155,.pl Y25 [.t 4] 2),
 (156,.pl Y26 [.c 2 8 true] 1),
 (157,.pl Y27 [.t 8] 4),
 (158,.pl Y28 [.c 2 11 true] 1),
 (159,.pl Y29 [.t 8] 4),
 (160,.pl Y3a [.c 2 7 true] 1),
 (161,.pl Y3b [.t 8] 4),
 (162,.pl Y3c [.c 2 5 true] 1),
 (163,.pl Y3d [.t 8] 4),
 (164,.pl Y3e [.c 2 4 true] 1),
 (177,.pl Y3f [.t 2] 1),
 (178,.pl Y3g [.t 2] 1),
 (179,.pl Y3h [.t 2] 1),
 (181,.pl Y3i [.t 2] 1),
 (182,.pl Y3j [.t 2] 1),
 (183,.pl Y3k [.t 2] 1),
 (184,.pl Y3l [.t 2] 1),
 (185,.pl Y3m [.t 6] 3),
 (187,.pl Y3n [.t 6] 3),
 (188,.pl Y3o [.t 2] 1),
 (189,.pl Y3p [.t 6] 3),
 (190,.pl Y3q [.t 2] 1),
 (191,.pl Y3r [.t 6] 3),
 (192,.pl Y3s [.t 2] 1),
 (193,.pl Y3t [.t 6] 3),
 (194,.pl Y3u [.t 2] 1),
 (195,.pl Y3v [.t 6] 3),
 (196,.pl Y3w [.t 2] 1),
 (197,.pl Y3x [] 2),
 (205,.pl Y3y [.t 4] 2),
 (206,.pl Y3z [.t 4] 2),
 (235,.pl Y33 [.c 6 4 true] 3),
 (236,.pl Y34 [.t 4] 2),
 (237,.pl Y35 [.c 2 6 true] 1),
 (238,.pl Y36 [.t 4] 2),
 (239,.pl Y37 [.t 2] 2),
 (240,.pl Y39 [.t 2,.t 3] 1),
 (241,.pl Y4a [.c 2 5 true] 1),
 (242,.pl Y4b [.t 6] 3),
 (243,.pl Y4c [.t 2] 1),
 (244,.pl Y4d [.t 6] 3),
 (245,.pl Y4e [.t 2] 1),
 (246,.pl Y4f [.t 6] 3),
 (247,.pl Y4g [.t 2] 1),
 (248,.pl Y4h [.t 2] 1),
 (249,.pl Y4i [.t 6] 3),
 (250,.pl Y4k [.t 2] 1),
 (251,.pl Y4l [.t 2] 1),
 (252,.pl Y4m [.t 6] 3),
 (253,.pl Y4n [.t 2] 1),
 (254,.pl Y4o [.t 6] 3),
 (255,.pl Y4p [.t 2] 1),
 (256,.pl Y4q [.t 6] 3),
 (257,.pl Y4r [.t 2] 1),
 (273,.pl Y4u [.t 1] 1),
 (274,.pl Y4v [.t 8] 4),
 (275,.pl Y4w [.t 1] 1),
 (276,.pl Y4x [.t 2] 1),
 (277,.pl Y4y [.t 6] 3)]
def Qg:FT:=(92,.pl jj [] 2)::oL
def Ygx:FT:=oL
def Ygy:FT:=Ygx.drop 12
def Ygz:FT:=Ygy.drop 12
def Yg0:FT:=Ygz.drop 12
def Yg1:FT:=Yg0.drop 12
def Yg2:FT:=Yg1.drop 12
def Yg3:FT:=Yg2.drop 12
def Yg4:FT:=Yg3.drop 12
def Yg5:FT:=Yg4.drop 12
def Yg6:FT:=Yg5.drop 12
def tq:FT:=Yg6.drop 12
def uB:FT:=tq.drop 12
def uC:FT:=uB.drop 12
def uD:FT:=uC.drop 12
def uE:FT:=uD.drop 12
def uF:FT:=uE.drop 12
def uG:FT:=uF.drop 12
def uH:FT:=uG.drop 12
def uI:FT:=uH.drop 12
def uJ:FT:=uI.drop 12
def Yp0:FT:=uJ.drop 12
def Yzr:(Ygx.take 12).all (Ed prog)=true:=by kernel_rfl
def Yzs:(Ygy.take 12).all (Ed prog)=true:=by kernel_rfl
def Yzt:(Ygz.take 12).all (Ed prog)=true:=by kernel_rfl
def Yzu:(Yg0.take 12).all (Ed prog)=true:=by kernel_rfl
def Yzv:(Yg1.take 12).all (Ed prog)=true:=by kernel_rfl
def Yzw:(Yg2.take 12).all (Ed prog)=true:=by kernel_rfl
def Yzx:(Yg3.take 12).all (Ed prog)=true:=by kernel_rfl
def Yzy:(Yg4.take 12).all (Ed prog)=true:=by kernel_rfl
def Yzz:(Yg5.take 12).all (Ed prog)=true:=by kernel_rfl
def Yz0:(Yg6.take 12).all (Ed prog)=true:=by kernel_rfl
def Ypp:(tq.take 12).all (Ed prog)=true:=by kernel_rfl
def Ypq:(uB.take 12).all (Ed prog)=true:=by kernel_rfl
def Ypr:(uC.take 12).all (Ed prog)=true:=by kernel_rfl
def Yps:(uD.take 12).all (Ed prog)=true:=by kernel_rfl
def Ypt:(uE.take 12).all (Ed prog)=true:=by kernel_rfl
def Ypu:(uF.take 12).all (Ed prog)=true:=by kernel_rfl
def Ypv:(uG.take 12).all (Ed prog)=true:=by kernel_rfl
def Ypw:(uH.take 12).all (Ed prog)=true:=by kernel_rfl
def Ypx:(uI.take 12).all (Ed prog)=true:=by kernel_rfl
def Ypy:(uJ.take 12).all (Ed prog)=true:=by kernel_rfl
def Ypz:Yp0.all (Ed prog)=true:=by kernel_rfl
def Ydu:FT.ok prog oL:=FO 12 Yzr (FO 12 Yzs (FO 12 Yzt (FO 12 Yzu (FO 12 Yzv (FO 12 Yzw (FO 12 Yzx (FO 12 Yzy (FO 12 Yzz (FO 12 Yz0 (FO 12 Ypp (FO 12 Ypq (FO 12 Ypr (FO 12 Yps (FO 12 Ypt (FO 12 Ypu (FO 12 Ypv (FO 12 Ypw (FO 12 Ypx (FO 12 Ypy (ZP Ypz))))))))))))))))))))
def tp:FT.ok prog Qg:=
 qU Zf5 (by kernel_rfl)
 (Ydu)
def Lc:Int->List UInt8->Option Int
|n,[]=>some n
|n,c::r=>if 1099511627776<10*n+(c.toNat-48) then none else Lc (10*n+(c.toNat-48)) r
def Xx0{s:List UInt8}{k:Nat}{n:Int}(h:k<s.length):Lc n (s.drop k)=if 1099511627776<10*n+((s[k]?.getD 0).toNat-48) then none else Lc (10*n+((s[k]?.getD 0).toNat-48)) (s.drop (k+1)):=by
 rw[Db h];simp[Lc,h]
include hP
omit hP
def TD(a:D)(l:List Cu):Prop:=a=OH l\/a=.AT/\l=[]
section
variable {a:D} {l:List Cu} (h:TD a l)
include h
theorem TD.len:Hj (.d a)=.d (.int .i64 l.length):=by rcases h with rfl|⟨rfl,rfl⟩<;>simp[OH]
theorem TD.C2(b:AB):Im b (.d a)=True:=by rcases h with rfl|⟨rfl,rfl⟩<;>simp[OH]
theorem TD.HM(b:AB)(k:IntKind)(i:Int):K3 b 4 (.d a) (.d (.int k i))=(0<=i/\i<l.length):=by
 rcases h with rfl|⟨rfl,rfl⟩
 ·simp[OH]
 ·simp[K3,J0]
theorem TD.Fl{k:IntKind}{i:Nat}(b:i<l.length):K4 4 (.d a) (.d (.int k i))=.d (.Bd (l[i]?.getD default).enc):=by
 rcases h with rfl|⟨rfl,rfl⟩
 ·simp[OH,b]
 ·simp at b
end
def R7(c:UInt8):Bool:=V1 c.toNat
def Yo(c:UInt8):Bool:=Nf c.toNat
def WZ(c:UInt8):Bool:=Ygr c.toNat
def V3(c:UInt8):Bool:=Nx c.toNat
def Et(c:UInt8):Bool:=Ke c.toNat
def J2(c:UInt8):Bool:=c != 10
inductive ZQ where
|skip (n:Nat)
|Oe (k:Int) (t:List UInt8) (m:Int) (n:Nat)
|GW
def Ld(t:List UInt8):Option Int:=match Lc 0 t with
|none=>none
|some n=>if t.length=1\/t.headD 0≠48 then some n else none
def LA(c:UInt8)(r:List UInt8):ZQ:=
 if WZ c then .skip 0
 else if c=47/\r.head? = some 47 then .skip (r.takeWhile J2).length
 else if R7 c then
  if (r.takeWhile V3).length+1<=32 then .Oe 1 (c::r.takeWhile V3) 0 (r.takeWhile V3).length else .GW
 else if Yo c then
  match Ld (c::r.takeWhile Yo) with
  |some n=>.Oe 2 [] n (r.takeWhile Yo).length
  |none=>.GW
 else if Et c then .Oe 3 [c] 0 0 else .GW
inductive LG where
|ok (l:List Cu)
|GW (at_:Nat)
def SZ(t:Cu):LG->LG
|.ok l=>.ok (t::l)
|.GW e=>.GW e
def Kt(l:List Cu):LG->LG
|.ok a=>.ok (l++a)
|.GW e=>.GW e
def F5:List UInt8->Nat->LG
|[],_=>.ok []
|c::r,a=>match LA c r with
 |.skip n=>F5 (r.drop n) (a+n+1)
 |.Oe k t m n=>SZ ⟨k,t,m,a⟩ (F5 (r.drop n) (a+n+1))
 |.GW=>.GW a
termination_by l=>l.length
decreasing_by all_goals (simp only[List.length_drop,List.length_cons];omega)
def oS:LG->V
|.ok l=>.BE [.d (OH l),.d (.int .i64 0),.d (.int .i64 0)]
|.GW e=>.BE [.d .AT,.d (.int .i64 e),.d (.int .i64 90)]
def S4(s:List UInt8):V:=if s.length > 65536 then .BE [.d .AT,.d (.int .i64 0),.d (.int .i64 2)] else oS (F5 s 0)
def X9q(r:LG):Kt [] r=r:=by cases r<;>rfl
def eK(l:List Cu)(t:Cu)(r:LG):Kt l (SZ t r)=Kt (l++[t]) r:=by cases r<;>simp[Kt,SZ]
def tw(p:UInt8->Bool)(s:List UInt8)(j:Nat):Nat:=((s.drop j).takeWhile p).length
def Zbb{p:UInt8->Bool}{s:List UInt8}{j:Nat}(h:s.length<=j):tw p s j=0:=by simp[tw,Gj h]
def dL{p:UInt8->Bool}{s:List UInt8}{j:Nat}(h:j<s.length)(a:p (s[j]?.getD 0)=true):tw p s j=tw p s (j+1)+1:=by
 simp[h]at a;unfold tw;rw[Db h,QZ,BL a];rfl
def Zbc{p:UInt8->Bool}{s:List UInt8}{j:Nat}(h:j<s.length)(a:p (s[j]?.getD 0)=false):tw p s j=0:=by
 simp[h]at a;unfold tw;rw[Db h,QZ,a];rfl
def Pc(p:UInt8->Bool)(s:List UInt8)(j:Nat)(h:j<=s.length):j+tw p s j<=s.length:=by
 have:=(List.takeWhile_sublist p (l:=s.drop j)).length_le;simp[tw]at this⊢;omega
def V6(p:UInt8->Bool):∀l:List UInt8,l.takeWhile p=l.take (l.takeWhile p).length
|[]=>rfl
|c::r=>by
 simp only[QZ];split
 ·simp;exact V6 p r
 ·rfl
def Ye8{p:UInt8->Bool}{x:UInt8}:∀{l:List UInt8},x∈l.takeWhile p->p x=true
|c::r,h=>by
 rw[QZ]at h;split at h
 ·rename_i a;rcases DA.mp h with rfl|h
  ·exact a
  ·exact Ye8 h
 ·cases h
def Qo{s:List UInt8}{i:Nat}(h:i<s.length):s.drop i=(s[i]?.getD 0)::s.drop (i+1):=by
 rw[Db h];simp[h]
def Yp4(p:UInt8->Bool){s:List UInt8}{i:Nat}(h:i<s.length)(b:p (s[i]?.getD 0)=true):
 (s.take (i+tw p s i)).drop i=(s[i]?.getD 0)::(s.drop (i+1)).takeWhile p/\tw p s i=((s.drop (i+1)).takeWhile p).length+1:=by
 have a:tw p s i=((s.drop (i+1)).takeWhile p).length+1:=dL h b;refine⟨?_,a⟩;rw[QT,Nat.add_sub_cancel_left,a,Qo h,List.take_succ_cons,<-V6]
def Ycw{s:List UInt8}{i a:Nat}(h:s.length<=i):F5 (s.drop i) a=.ok []:=by
 rw[Gj h,F5]
def Yna{s:List UInt8}{i:Nat}(h:i<s.length):F5 (s.drop i) i=match LA (s[i]?.getD 0) (s.drop (i+1)) with
|.skip n=>F5 (s.drop (i+n+1)) (i+n+1)
|.Oe k t m n=>SZ ⟨k,t,m,i⟩ (F5 (s.drop (i+n+1)) (i+n+1))
|.GW=>.GW i:=by
 rw[Qo h,F5];cases LA (s[i]?.getD 0) (s.drop (i+1)) with
 |GW=>rfl
 |skip n=>simp only[List.drop_drop];congr 2;omega
 |Oe k t m n=>simp only[List.drop_drop];congr 3;omega
def xJ{s:List UInt8}{i:Nat}:(s.drop i).head? = s[i]?:=by simp[List.head?_drop]
def OB:Nat->List UInt8->Nat->LG
|0,_,_=>.ok []
|_,[],_=>.ok []
|f+1,c::r,a=>match LA c r with
 |.skip n=>OB f (r.drop n) (a+n+1)
 |.Oe k t m n=>SZ ⟨k,t,m,a⟩ (OB f (r.drop n) (a+n+1))
 |.GW=>.GW a
def gh:∀(f:Nat)(s:List UInt8)(a:Nat),s.length<=f->OB f s a=F5 s a
|0,s,a,h=>by
 have:s=[]:=Nd.1 (by omega);subst this;simp[OB,F5]
|f+1,[],a,h=>by simp[OB,F5]
|f+1,c::r,a,h=>by
 rw[OB,F5];have b:∀n,(r.drop n).length<=f:=λn=>by simp at h⊢;omega
 split
 ·rw[gh f _ _ (b _)];try simp_all
 ·rw[gh f _ _ (b _)];try simp_all
 ·simp_all
def Mo{i n:Nat}(h:i<n)(a:n<=1000000):IntKind.i64.wrap ((i:Int)+1)=(i:Int)+1:=w_i _ (by omega)
def Fj(f:Nat->Int):List D:=(List.range 256).map λi=>.int .i64 (f i)
def Jg(f:Nat->Int):D:=.agg (Fj f)
def Og(f:Nat->Int)(n:Nat)(v:Int)(i:Nat):Int:=if i=n then v else f i
def Zq{f g:Nat->Int}(h:∀i,i<256->f i=g i):Jg f=Jg g:=by
 unfold Jg Fj;congr 1;exact List.map_congr_left λi a=>by rw[h i (Ii.mp a)]
@[simp]def tbl_kids(f:Nat->Int):V.BM (.d (Jg f))=some ((Fj f).map .d):=by simp only[Jg,V.BM]
@[simp]def tbl_getE(f:Nat->Int){n:Nat}(h:n<(Fj f).length):(Fj f)[n]=.int .i64 (f n):=by simp[Fj]
@[simp]def u6(f:Nat->Int):(Fj f).length=256:=by simp[Fj]
@[simp]def allD_set(l:List D)(n:Nat)(x:D):Bt ((l.map V.d).set n (.d x))=some (l.set n x):=by rw[<-Fg,Bi]
@[simp]def tblL_set(f:Nat->Int)(n:Nat)(v:Int):(Fj f).set n (.int .i64 v)=Fj (Og f n v):=by
 unfold Fj;apply QR;intro i;by_cases b:n=i
 ·subst b;by_cases a:n<256
  ·simp[Kj,a,Og]
  ·simp[Kj,a]
 ·by_cases a:i<256
  ·simp[Kj,b,a,Og,Ne.symm b]
  ·simp[Kj,b,a]
@[simp]def Yh4(f:Nat->Int):D.agg (Fj f)=Jg f:=rfl
def Ypo{l:List D}{n:Nat}(h:∀x∈l,x.sz=n):Cf l=l.length*n:=EO l h
def gB(f:Nat->Int):∀x∈Fj f,x.sz=1:=by
 intro x a;simp only[Fj,C9]at a;obtain⟨i,_,rfl⟩:=a;rfl
@[simp]def Yz1(f:Nat->Int):(Jg f).sz=256:=by simp only[Jg,D.sz,Ypo (gB f),u6]
@[simp]def tbl_size'(f:Nat->Int):(Jg f).shape.size=256:=by rw[CC,Yz1]
@[simp]def tbl_agg(f:Nat->Int):V.isAgg (.d (Jg f))=true:=rfl
@[simp]def tbl_dagg(f:Nat->Int):(Jg f).isAgg=true:=rfl
@[simp]def tbl_ok(f:Nat->Int):(∀a,a∈Fj f->a.shape.size=1)=True:=
 eq_true λx b=>by rw[CC];exact gB f x b
def Yc3(n:Nat)(x:D):List.replicate n x=(List.range n).map λ_=>x:=by
 rw[List.map_const',List.length_range]
def dR:∀s:List UInt8,A2 s=s.map λb=>.int .u8 b.toNat
|[]=>rfl
|b::r=>by simp[A2,dR r]
def xW:List.replicate 256 (D.int .i64 0)=Fj λ_=>0:=Yc3 256 _
def P1(k i:Nat):Int:=if 65<=i/\i<65+k\/97<=i/\i<97+k then 2 else 0
def P2(k i:Nat):Int:=if 48<=i/\i<48+k then 3 else P1 26 i
def K9:List UInt8:=[32,9,10,13]
def P3(k i:Nat):Int:=if i∈(K9.take k).map UInt8.toNat then 1 else P2 10 i
def TO(k i:Nat):Int:=if i∈(DO.take k).map UInt8.toNat then 4 else P3 4 i
def F1:Nat->Int:=TO 15
def Xvu{l:List UInt8}{k i:Nat}(h:k<l.length):(i∈(l.take (k+1)).map UInt8.toNat)↔(i=(l[k]?.getD 0).toNat\/i∈(l.take k).map UInt8.toNat):=by
 rw[List.take_add_one,Ij,DF,Cn h];simp only[Option.toList_some,Cg,HB,DW,Option.getD_some];exact Or.comm
def Zbv:D:=Jg F1
include hP
theorem Xw1{r:AB}{K:V->Prop}(h:K (.d Zbv)):AU P 138 [] r K:=by
 refine AJ hP AO (ds:=[]) Y9s Y6z BD.nil ?_;simp only[Yvu,xW];rw[show D.agg (Fj λ_=>0)=Jg λ_=>0 from rfl,show Jg (λ_=>0)=Jg (P1 0) from Zq λi _=>by simp[P1]];simp;refine Ae.go (ι:=Nat) (λk=>[(0,.ptr 0 []),(7,.d (.int .i64 k))]) (λk=>[(0,.box 245 (.d (Jg (P1 k))))]) (λk=>k<=26) (λk=>26-k) 0 (by omega) (by simp) (by simp) ?_;intro k p R j g _ _;by_cases a:k<26
 ·have q:IntKind.i64.wrap (65+(k:Int))=65+(k:Int):=w_i _ (by omega);have s:IntKind.i64.wrap (97+(k:Int))=97+(k:Int):=w_i _ (by omega);have m:=Mo a (by omega);simp[yY,q,s,m,show(k:Int)<26 by omega,show ¬(26:Int)<=k by omega,show(0:Int)<=65+k by omega,show(0:Int)<=97+k by omega,show 65+(k:Int)<256 by omega,show 97+(k:Int)<256 by omega,show(65+(k:Int)).toNat=65+k by omega,show(97+(k:Int)).toNat=97+k by omega,show 65+k<256 by omega,show 97+k<256 by omega];refine j [] (k+1) _ _ ?_ ?_ ?_ ?_ ?_ ?_
  ·omega
  ·omega
  ·simp
  ·simp;refine Zq λi _=>?_;simp only[Og,P1]
   repeat (first|split|omega)
   all_goals omega
  ·simp
  ·simp
 ·have b:k=26:=by omega
  subst b;simp[yY];refine g _ _ _ ?_;simp;clear j g;rw[show Jg (P1 26)=Jg (P2 0) from Zq λi _=>by simp[P2];omega];refine Ae.go (ι:=Nat) (λk=>[(0,.ptr 0 []),(17,.d (.int .i64 k))]) (λk=>[(0,.box 245 (.d (Jg (P2 k))))]) (λk=>k<=10) (λk=>10-k) 0 (by omega) (by simp) (by simp) ?_;intro k p R j g _ _;by_cases a:k<10
  ·have q:IntKind.i64.wrap (48+(k:Int))=48+(k:Int):=w_i _ (by omega);have m:=Mo a (by omega);simp[yX,q,m,show(k:Int)<10 by omega,show ¬(10:Int)<=k by omega,show(0:Int)<=48+k by omega,show 48+(k:Int)<256 by omega,show(48+(k:Int)).toNat=48+k by omega,show 48+k<256 by omega];refine j [] (k+1) _ _ ?_ ?_ ?_ ?_ ?_ ?_
   ·omega
   ·omega
   ·simp
   ·simp;refine Zq λi _=>?_;simp only[Og,P2]
    repeat (first|split|omega)
    all_goals omega
   ·simp
   ·simp
  ·have b:k=10:=by omega
   subst b;simp[yX];refine g _ _ _ ?_;simp;clear j g;rw[show Jg (P2 10)=Jg (P3 0) from Zq λi _=>by simp[P3]];show Ae _ _ _ [_,(25,V.d (D.AF 1 (A2 K9))),_,_] _;refine Ae.go (ι:=Nat) (λk=>[(0,.ptr 0 []),(25,.d (.AF 1 (A2 K9))),(26,.d (.int .i64 4)),(27,.d (.int .i64 k))]) (λk=>[(1,.AY),(0,.box 245 (.d (Jg (P3 k))))]) (λk=>k<=4) (λk=>4-k) 0 (by omega) (by simp[Xj]) (by simp) ?_;intro k p R j g _ _;by_cases a:k<4
   ·have m:=Mo a (by omega);have n:(A2 K9)[k]?.getD default=.int .u8 (K9[k]?.getD 0).toNat:=by
     rw[dR];simp[show k<K9.length from a]
    have f:(A2 K9).length=4:=rfl;have o:=(K9[k]?.getD 0).toNat_lt;generalize l:K9[k]?.getD 0=c at *;simp[yW,m,n,f,show(k:Int)<4 by omega,show ¬(4:Int)<=k by omega,o,show((c.toNat:Int)<256) by omega];refine j [] (k+1) _ _ ?_ ?_ ?_ ?_ ?_ ?_
    ·omega
    ·omega
    ·simp
    ·simp;refine Zq λi _=>?_;simp only[Og,P3,Xvu (show k<K9.length from a),l];split
     next e=>simp[e]
     next e=>simp[e]
    ·simp
    ·simp
   ·have b:k=4:=by omega
    subst b;simp[yW];refine g _ _ _ ?_;simp;clear j g;rw[show Jg (P3 4)=Jg (TO 0) from Zq λi _=>by simp[TO]];show Ae _ _ _ [_,(35,V.d (D.AF 1 (A2 DO))),_,_] _;refine Ae.go (ι:=Nat) (λk=>[(0,.ptr 0 []),(35,.d (.AF 1 (A2 DO))),(36,.d (.int .i64 15)),(37,.d (.int .i64 k))]) (λk=>[(2,.AY),(1,.AY),(0,.box 245 (.d (Jg (TO k))))]) (λk=>k<=15) (λk=>15-k) 0 (by omega) (by simp[Xj]) (by simp) ?_;intro k p R j g _ _;by_cases a:k<15
    ·have m:=Mo a (by omega);have n:(A2 DO)[k]?.getD default=.int .u8 (DO[k]?.getD 0).toNat:=by
      rw[dR];simp[show k<DO.length from a]
     have f:(A2 DO).length=15:=rfl;have o:=(DO[k]?.getD 0).toNat_lt;generalize l:DO[k]?.getD 0=c at *;simp[yE,m,n,f,show(k:Int)<15 by omega,show ¬(15:Int)<=k by omega,o,show((c.toNat:Int)<256) by omega];refine j [] (k+1) _ _ ?_ ?_ ?_ ?_ ?_ ?_
     ·omega
     ·omega
     ·simp
     ·simp;refine Zq λi _=>?_;simp only[Og,TO,Xvu (show k<DO.length from a),l];split
      next e=>simp[e]
      next e=>simp[e]
     ·simp
     ·simp
    ·have b:k=15:=by omega
     subst b;simp[yE];refine g _ _ _ ?_;simp;refine⟨rfl,?_⟩;exact h
omit hP
@[simp]def idxPV_tbl(f:Nat->Int)(a:IntKind)(i:Int):La (.d (.Bd (Jg f))) (.d (.int a i))=.d (.Bd ((Fj f).getD i.toNat default)):=by simp only[Jg,La]
@[simp]def idxPS_tbl(c:AB)(f:Nat->Int)(b:IntKind)(i:Int):Nt c 256 1 (.d (.Bd (Jg f))) (.d (.int b i))=(0<=i/\i<256):=by
 simp only[Jg,Ykl,u6];simp;intro _ _ x a;exact gB f x a
def vY:∀n,n<256->(F1 n=2↔V1 n=true):=by decide +kernel
def dp:∀n,n<256->(F1 n=3↔Nf n=true):=by decide +kernel
def X05:∀n,n<256->(F1 n=1↔Ygr n=true):=by decide +kernel
def Yaf:∀n,n<256->(F1 n=4↔Ke n=true):=by decide +kernel
def X04:∀n,n<256->0<=F1 n/\F1 n<=4:=by decide +kernel
abbrev IH(s:List UInt8)(i:Int)(l:List D):D:=.agg [.AM s,.int .i64 i,Jg F1,.AF 4 l]
abbrev KF(s:List UInt8)(i:Int)(y n:Nat):V:=.agg [.d (.AM s),.d (.int .i64 i),.d (Jg F1),.sl y n]
include hP
theorem Yis(c:UInt8)(s:List UInt8)(i:Int)(l:List D){f:AB}{K:V->Prop}(h:K (.d (.bool (V3 c)))):AU P 230 [.d (.int .u8 c.toNat),.d (.Bd (.Bd (IH s i l)))] f K:=by
 refine AJ hP AO (ds:=[.int .u8 c.toNat,.Bd (.Bd (IH s i l))]) Zaw Y7y BD.nil ?_;have a:=c.toNat_lt;simp[Y1r,a,show(c.toNat:Int)<256 by omega];refine(CK K ?_).mp h;congr 2;rw[Dl];have b:=vY c.toNat a;have e:=dp c.toNat a;simp[V3,Nx,b,e]
theorem X0l(c:UInt8)(s:List UInt8)(i:Int)(l:List D){e:AB}{K:V->Prop}(h:K (.d (.bool (Yo c)))):AU P 232 [.d (.int .u8 c.toNat),.d (.Bd (.Bd (IH s i l)))] e K:=by
 refine AJ hP AO (ds:=[.int .u8 c.toNat,.Bd (.Bd (IH s i l))]) Zay Y70 BD.nil ?_;have a:=c.toNat_lt;simp[Y1t,a,show(c.toNat:Int)<256 by omega];refine(CK K ?_).mp h;congr 2;rw[Dl];have b:=dp c.toNat a;simp[Yo,b]
theorem Yix(c:UInt8){e:AB}{K:V->Prop}(h:K (.d (.bool (J2 c)))):AU P 234 [.d (.int .u8 c.toNat)] e K:=by
 refine AJ hP AO (ds:=[.int .u8 c.toNat]) Za0 Y72 BD.nil ?_;simp[Y1v];refine(CK K ?_).mp h;congr 2;rw[Dl];simp[J2];constructor
 ·intro a b;exact a (by rw[<-UInt8.ofNat_toNat (x:=c),show c.toNat=10 by omega];rfl)
 ·intro a b;subst b;exact a rfl
theorem X91(s t:List UInt8){c:AB}{K:V->Prop}(h:K (.d (.bool (t.isPrefixOf s)))):AU P 233 [.d (.AM s),.d (.AM t)] c K:=by
 have b:∀{K:V->Prop},K (.d (.bool (t.isPrefixOf s)))->AU P 272 [.d (.AM s),.d (.AM t)] [] K:=λ{K} h=>by
  refine AJ hP AO (ds:=[.AM s,.AM t]) Za2 Y74 BD.nil ?_;simp[Y1x];refine(CK K ?_).mp h;congr 2;rw[Dl];simp only[List.isPrefixOf_iff_prefix,List.prefix_iff_eq_take];by_cases a:t.length<=s.length
  ·simp[a];exact eq_comm
  ·simp[a];intro e;have:=CK List.length e;simp at this;omega
 refine AJ hP AO (ds:=[.AM s,.AM t]) Zaz Y71 BD.nil ?_;simp[Y1u];exact b (by simpa using h)
theorem lM(s:List UInt8)(i:Nat)(F:i<=s.length)(v:s.length<=1000000)(l:List D)(f:Nat)(e b:List D)(p:UInt8->Bool)(t:Xd P.p f=true)
 (u:∀(c:UInt8)(K:V->Prop),K (.d (.bool (p c)))->AU P f (e.map .d++.d (.int .u8 c.toNat)::b.map .d) [] K)
 {w:AB} {K:V->Prop} (h:K (.d (.AM ((s.drop i).takeWhile p)))):AU P 229 [.d (.Bd (IH s i l)),.d (.fn f e b)] w K:=by
 refine AJ hP AO (ds:=[.Bd (IH s i l),.fn f e b]) Zav Y7x BD.nil ?_;simp[Y1q];refine Ae.go (ι:=Nat) (λj=>[(0,.d (.Bd (IH s i l))),(1,.d (.fn f e b)),(5,.d (.int .i64 j))]) (λ_=>[]) (λj=>i<=j/\j<=s.length/\j+tw p s j=i+tw p s i) (λj=>s.length-j) i ⟨by omega,by omega,rfl⟩ rfl rfl ?_;rintro j ⟨m,n,g⟩ R z y _ _;have q:tw p s j=0->∀x,R (Cv.exit 0) [(0,.d (.Bd (IH s i l))),(1,.d (.fn f e b)),(5,.d (.int .i64 j)),(26,x)] []:=λr x=>by
  refine y _ _ _ ?_;simp[m,n];refine(CK K ?_).mp h;congr 2;rw[QT,V6];congr 1;simp only[tw]at g r⊢;omega
 simp[X9g];by_cases a:j<s.length
 ·have o:=Mo a v;simp[a,o,t];refine⟨AU.Bm (u s[j] _ ?_),λh=>absurd h (by omega)⟩;by_cases k:p s[j]=true
  ·simp[k];refine z [] (j+1) _ _ ⟨?_,?_,?_⟩ ?_ ?_ ?_ ?_ ?_
   ·omega
   ·omega
   ·rw[<-g,dL a (by simpa[a]using k)];omega
   ·omega
   ·simp
   ·simp
   ·simp
   ·simp
  ·simp[k];exact q (Zbc a (by simpa[a]using k)) _
 ·simp[a];exact λ_=>q (Zbb (by omega)) _
theorem lL(s:List UInt8)(i n:Nat)(k m l:Int)(t:List UInt8)(b:List D)(r:i+n<=1000000)(p:b.length<=1000000){c:AB}{x y:Nat}(f:AA c x=some (.box 248 (KF s i y b.length)))(a:AA c y=some (.A9 157 4 b))
 {K:A7->AB->Prop} (h:K (.ret (.BE [])) (AG (AG c y (.A9 157 4 (b++[.agg [.int .i64 k,.AM t,.int .i64 m,.int .i64 i]]))) x (.box 248 (KF s ((i+n:Nat):Int) y (b.length+1))))):
 AV P 231 [.ptr x [],.d (.agg [.int .i64 k,.AM t,.int .i64 m,.int .i64 l]),.d (.int .i64 n)] c K:=by
 have g:(y==x)=false:=by rw[HZ];intro e;subst e;rw[f]at a;cases a
 have j:(x==y)=false:=by rw[HZ];intro e;subst e;rw[f]at a;cases a
 refine Aq hP AO Zax Y7z BD.nil ?_;intro _ o;have q:IntKind.i64.wrap ((i:Int)+n)=(i:Int)+n:=w_i _ (by omega);simp[Y1s,f,a,g,j,q];refine⟨by omega,?_⟩;refine⟨[],by simp,?_,?_⟩
 ·simp;exact Ar _ _ _ _ _ (BH _ _ _ _ _ _ (o _)) (by simp[a])
 ·simpa using h
abbrev LV(ob:AB)(x y:Nat)(s:List UInt8)(ts:List D)(k:Int)(t:List UInt8)(m:Int)(i n:Nat):AB:=
 AG (AG ob y (.A9 157 4 (ts++[.agg [.int .i64 k,.AM t,.int .i64 m,.int .i64 i]]))) x (.box 248 (KF s ((i+n:Nat):Int) y (ts.length+1)))
theorem eE:Xd P.p 230=true/\Xd P.p 232=true/\Xd P.p 234=true:=by
 rw[hP];exact⟨by kernel_rfl,by kernel_rfl,by kernel_rfl⟩
section
variable (s:List UInt8) (i:Nat) (ts:List D) (hs:s.length<=65536) (hi:i<s.length) (hts:ts.length<=1000000) {ob:AB} {x y:Nat} (hx:AA ob x=some (.box 248 (KF s i y ts.length))) (hy:AA ob y=some (.A9 157 4 ts)) {K:A7->AB->Prop}
include hs hi hts hx hy
omit hs hi hts hy in
theorem Yit(h:K (.panic (.d (.iface 242 (.int .i64 i)))) ob):AV P 139 [.ptr x []] ob K:=by
 refine Aq hP AO Y9t Y60 BD.nil ?_;intro _ a;simp[Y04,hx];refine⟨[],by simp,?_,?_⟩
 ·simp[a]
 ·simpa using h
omit hts in
theorem Yiz(h:K (.ret (.BE [])) (AG ob x (.box 248 (KF s ((i+1:Nat):Int) y ts.length)))):AV P 140 [.ptr x []] ob K:=by
 refine Aq hP AO Y9u Y61 BD.nil ?_;intro _ a;have b:=Mo hi (by omega);simp[Y05,hx,b];refine⟨[],by simp,?_,?_⟩
 ·simp;exact Ar _ _ _ _ _ (a _) (by simp[hy])
 ·simpa using h
theorem Ysh(e:32<tw V3 s i->K (.panic (.d (.iface 242 (.int .i64 i)))) ob)(f:tw V3 s i<=32->K (.ret (.BE [])) (LV ob x y s ts 1 ((s.drop i).takeWhile V3) 0 i (tw V3 s i))):AV P 141 [.ptr x []] ob K:=by
 refine Aq hP AO Y9v Y62 BD.nil ?_;intro _ b;have j:=Pc V3 s i (by omega);simp[Y06,hx];refine Ov (n:=5) (ds:=[.Bd (IH s i ts),.fn 230 [] [.Bd (.Bd (IH s i ts))]]) (by simp[hx,hy]) ?_;refine lM hP s i (by omega) (by omega) ts _ [] _ V3 (eE hP).1 (λc K h=>by simpa using Yis hP c s i ts h) ?_;simp;have a:((s.drop i).takeWhile V3).length=tw V3 s i:=rfl;simp[a,hx];refine⟨λg=>?_,λg=>?_⟩
 ·refine⟨[],by simp,?_,?_⟩
  ·simp[b]
  ·simpa using e (by omega)
 ·simp[X89,a,hx];refine lL hP (y:=y) s i _ 1 0 0 _ ts (by omega) hts (by simp[hx]) (by simp[hy]) ?_;simp[hx,hy];refine⟨[],by simp,?_,?_⟩
  ·simp;exact Ar _ _ _ _ _ (BH _ _ _ _ _ _ (b _)) (by simp[hy])
  ·simpa[LV]using f (by omega)
theorem X0m(X:Yo (s[i]?.getD 0)=true)(T:Ld ((s.drop i).takeWhile Yo)=none->K (.panic (.d (.iface 242 (.int .i64 i)))) ob)
 (v:∀m,Ld ((s.drop i).takeWhile Yo)=some m->K (.ret (.BE [])) (LV ob x y s ts 2 [] m i (tw Yo s i))):AV P 142 [.ptr x []] ob K:=by
 refine Aq hP AO Y9w Y63 BD.nil ?_;intro _ J;have Y:=Pc Yo s i (by omega);simp[Y07,hx];refine Ov (n:=5) (ds:=[.Bd (IH s i ts),.fn 232 [] [.Bd (.Bd (IH s i ts))]]) (by simp[hx,hy]) ?_;refine lM hP s i (by omega) (by omega) ts _ [] _ Yo (eE hP).2.1 (λc K h=>by simpa using X0l hP c s i ts h) ?_;have O:((s.drop i).takeWhile Yo).length=tw Yo s i:=rfl;have j:∀k,k<tw Yo s i->Nf (((s.drop i).takeWhile Yo)[k]?.getD 0).toNat=true:=λk r=>by
  have:((s.drop i).takeWhile Yo)[k]∈(s.drop i).takeWhile Yo:=CS r;rw[Cn r];exact Ye8 this
 have l:0<tw Yo s i:=by have:=dL hi X;omega
 generalize ht:(s.drop i).takeWhile Yo=t at *;rw[<-O]at j l;simp;refine Ae.go (ι:=Nat×Int) (λk=>[(1,.ptr (fresh ob) []),(2,.d (.AM t)),(3,.d (.int .i64 k.2)),(9,.d (.int .i64 t.length)),(10,.d (.int .i64 k.1))]) (λ_=>(fresh ob,.box 244 (.ptr x []))::ob)
  (λk=>k.1<=t.length/\0<=k.2/\k.2<=1099511627776/\Lc 0 t=Lc k.2 (t.drop k.1)/\(2<=k.1->t.headD 0≠48)) (λk=>t.length-k.1) (0,0) ⟨by simp,by simp,by simp,by simp,by simp⟩ rfl rfl ?_
 rintro⟨k,n⟩ ⟨r,k1,k2,b,Q⟩ R rn re _ rp;simp only at r k1 k2 b Q;simp[X9a];by_cases a:k<t.length
 ·have U:=j k a;rw[Xx0 a]at b;generalize F:t[k]?.getD 0=c at *;have g:t[k]=c:=by rw[<-F];simp[a]
  simp[Nf]at U;have W:=c.toNat_lt;have hw:IntKind.i64.wrap (IntKind.i64.wrap (10*n)+IntKind.i64.wrap (IntKind.u8.wrap (c.toNat-48)))=10*n+(c.toNat-48):=by
   rw[IntWalk.u8_in _ (by omega),w_i (10*n) (by omega),w_i (_-48) (by omega),w_i _ (by omega)]
  have p:=Mo a (by omega);have o:Ld t=none->R (Cv.panic (V.d (D.iface 242 (D.int IntKind.i64 i)))) [] ((fresh ob,.box 244 (.ptr x []))::ob):=λL=>by
   refine rp _ _ _ ?_;simp;refine⟨[],by simp,?_,?_⟩
   ·simp[J]
   ·simpa using T L
  have N:(t[0]?.getD 0)=t.headD 0:=by cases t<;>rfl
  have f:0<k->t[0]?.getD 0=48->Ld t=none:=λk0 e=>by
   rw[N]at e;unfold Ld;cases Lc 0 t with
   |none=>rfl
   |some m=>simp only;rw[Af];simp only[not_or,Classical.not_not];exact⟨by omega,e⟩
  simp[a,g,hw,p,hx];refine⟨⟨λ_ _=>l,λe=>o ?_,λu M=>?_⟩,λe=>absurd e (by omega)⟩
  ·rcases e with e|⟨u,M⟩
   ·rw[BL e]at b;simp[Ld,b]
   ·refine f u ?_;have q:(t[0]?.getD 0).toNat=48:=by omega
    generalize t[0]?.getD 0=z at q;rw[<-UInt8.ofNat_toNat (x:=z),q];rfl
  ·rw[Af (by omega)]at b;simp[X9b,p];refine rn [] (k+1,10*n+(c.toNat-48)) _ _ ⟨?_,?_,?_,?_,?_⟩ ?_ ?_ ?_ ?_ ?_
   ·simp only;omega
   ·simp only;omega
   ·exact u
   ·exact b
   ·intro w q;have H:0<k:=by simp only at w;omega
    refine M H ?_;rw[N,q];rfl
   ·simp only;omega
   ·simp
   ·simp
   ·simp[AE]
   ·simp[Yp _ J,hx]
 ·have G:k=t.length:=by omega
  subst G;simp;refine re _ _ _ ?_;simp[hx];refine lL hP (y:=y) s i _ 2 n 0 _ ts (by omega) hts (by simp[hx]) (by simp[hy]) ?_;simp[hx,hy];refine⟨[],by simp,?_,?_⟩
  ·simp;exact Ar _ _ _ _ _ (BH _ _ _ _ _ _ (J _)) (by simp[hy])
  ·have Z:Ld t=some n:=by
    simp[Lc]at b;simp only[Ld,b];rw[BL];by_cases v:2<=t.length
    ·exact .inr (Q v)
    ·exact .inl (by omega)
   simpa[LV,O]using v n Z
theorem Yiy(t:Et (s[i]?.getD 0)=true)(m:s[i]?.getD 0=47/\(s.drop (i+1)).head? = some 47->K (.ret (.BE [])) (AG ob x (.box 248 (KF s ((i+tw J2 s i:Nat):Int) y ts.length))))
 (o:¬(s[i]?.getD 0=47/\(s.drop (i+1)).head? = some 47)->K (.ret (.BE [])) (LV ob x y s ts 3 [s[i]?.getD 0] 0 i 1)):AV P 143 [.ptr x []] ob K:=by
 refine Aq hP AO Y9x Y64 BD.nil ?_;intro _ j;have k:=Mo hi (by omega);have q:=Pc J2 s i (by omega);simp[Y08,hx,k,show i<=s.length by omega];refine AU.data (ds:=[.AM (s.drop i),.AM [47,47]]) rfl (X91 hP _ _ ?_);have b:([47,47]:List UInt8).isPrefixOf (s.drop i)=decide (s[i]?.getD 0=47/\(s.drop (i+1)).head? = some 47):=by
  rw[Qo hi];cases u:s.drop (i+1) with
  |nil=>simp[List.isPrefixOf]
  |cons a r=>
   rw[Dl];simp only[List.isPrefixOf,As,CT,Bool.and_true,Bs,List.head?_cons,Bu];exact⟨λh=>⟨h.1.symm,h.2.symm⟩,λh=>⟨h.1.symm,h.2.symm⟩⟩
 rw[b];simp[hx,k];refine⟨λd l=>?_,λe=>⟨by omega,?_⟩⟩
 ·refine Ov (n:=5) (ds:=[.Bd (IH s i ts),.fn 234 [] []]) (by simp[hx,hy]) ?_;refine lM hP s i (by omega) (by omega) ts _ [] [] J2 (eE hP).2.2 (λc K h=>by simpa using Yix hP c h) ?_;have p:((s.drop i).takeWhile J2).length=tw J2 s i:=rfl;have g:IntKind.i64.wrap ((i:Int)+tw J2 s i)=(i:Int)+tw J2 s i:=w_i _ (by omega);simp[p,g];refine⟨[],by simp,?_,?_⟩
  ·simp;exact Ar _ _ _ _ _ (j _) (by simp[hy])
  ·have:=m ⟨d,by rw[xJ];exact l⟩;simpa using this
 ·have f:(s.take (i+1)).drop i=[s[i]?.getD 0]:=by
   rw[QT,Nat.add_sub_cancel_left,Qo hi];rfl
  rw[f];refine lL hP (y:=y) s i 1 3 0 0 _ ts (by omega) hts hx hy ?_;simp;refine⟨[],by simp,?_,?_⟩
  ·simp;exact Ar _ _ _ _ _ (BH _ _ _ _ _ _ (j _)) (by simp[hy])
  ·have:=o (λd=>e d.1 (by rw[<-xJ];exact d.2));simpa[LV]using this
end
omit hP
section
variable {P:Az} (hPp:P.p=prog)
include hPp
theorem Ysi{d:AB}{a b c:Nat}{K:AB->Prop}(h:K d):B6 P 137 [.ptr a [],.ptr b [],.ptr c []] d none K:=by
 refine B6.EM λ_ e=>?_;refine Q5 hPp AO Yy5 Yu2 Yuy BD.nil ?_;simp[gn,gk,Yqy];refine⟨[],by simp,?_,?_⟩
 ·simp[e]
 ·simpa using h
theorem Ysj{e:AB}{a b c:Nat}{i:Int}{K:AB->Prop}{va vb vc:V}{Ea Eb Ec:Nat}(k:AA e a=some (.box Ea va))(l:AA e b=some (.box Eb vb))(m:AA e c=some (.box Ec vc))(o:va.shape=.AX)(p:vb.shape=.AX)(q:vc.shape=.AX)
 (f:(a==b)=false) (g:(a==c)=false) (j:(b==c)=false) (h:K (AG (AG (AG e a (.box Ea (.d .AT))) b (.box Eb (.d (.int .i64 i)))) c (.box Ec (.d (.int .i64 90))))):B6 P 137 [.ptr a [],.ptr b [],.ptr c []] e (some (.d (.iface 242 (.int .i64 i)))) K:=by
 refine B6.EM λ_ n=>?_;refine Q5 hPp AO Yy5 Yu2 Yuy BD.nil ?_;simp[gn,gk,Yqy,X88,k,l,m,f,g,j,o,p,q];refine⟨[],by simp,?_,?_⟩
 ·rw[Xe (by simp)];exact Ar _ _ _ _ _ (Ar _ _ _ _ _ (Ar _ _ _ _ _ (n _) (by simp)) (by simp)) (by simp)
 ·rw[Xe (by simp)];exact h
theorem Yab:Xd P.p 137=true/\Xd P.p 139=true/\Xd P.p 140=true/\Xd P.p 141=true/\Xd P.p 142=true/\Xd P.p 143=true:=by
 rw[hPp];exact⟨by kernel_rfl,by kernel_rfl,by kernel_rfl,by kernel_rfl,by kernel_rfl,by kernel_rfl⟩
omit hPp in
theorem X8j(f g:Nat->Int):(Jg f).shape=(Jg g).shape:=by
 simp only[Jg,Fj,D.shape,D.BZ,List.map_map,Function.comp_def]
theorem Y18(s:List UInt8){ob:AB}{K:V->Prop}(h:K (S4 s)):AU P 72 [.d (.AM s)] ob K:=by
 refine U8 hPp AO (ds:=[.AM s]) Zoe Zkk BD.nil ?_;obtain⟨d0,d1,d2,d3,d4,d5⟩:=Yab hPp;simp only[Zek,xW,Yh4];simp[d0];refine⟨λhl=>?_,λhl=>?_⟩
 ·simpa[S4,show 65536<s.length by omega]using h
 ·have U:¬65536<s.length:=by omega
  simp only[S4,gt_iff_lt,U,Ci]at h;refine Xw1 hPp ?_;simp[Zbv];refine⟨X8j _ _,?_⟩;refine Ae.go (ι:=Nat×List Cu) (λ_=>[(0,.d (.AM s)),(2,.ptr 0 []),(3,.ptr 1 []),(4,.ptr 2 []),(5,.ptr 3 []),(6,.ptr 5 [])])
   (λk=>[(5,.box 249 (.agg [.fn 139 [.ptr 3 []] [],.fn 140 [.ptr 3 []] [],.fn 141 [.ptr 3 []] [],.fn 142 [.ptr 3 []] [],.fn 143 [.ptr 3 []] []])),
    (4,.A9 157 4 (k.2.map Cu.enc)),(3,.box 248 (KF s k.1 4 k.2.length)),(2,.box 35 (.d (.int .i64 0))),(1,.box 3 (.d (.int .i64 0))),(0,.box 145 (.d .AT))])
   (λk=>k.1<=s.length/\k.2.length<=k.1/\F5 s 0=Kt k.2 (F5 (s.drop k.1) k.1)) (λk=>s.length-k.1) (0,[]) ⟨by simp,by simp,by simp[X9q]⟩ rfl (by simp) ?_
  rintro⟨i,a⟩ ⟨hi,ho,b⟩ R rn re _ rp;simp only at hi ho b;have N:∀j l J,j<=s.length->l.length<=j->F5 s 0=Kt l (F5 (s.drop j) j)->i<j->J=[(5,.box 249 (.agg [.fn 139 [.ptr 3 []] [],.fn 140 [.ptr 3 []] [],.fn 141 [.ptr 3 []] [],.fn 142 [.ptr 3 []] [],.fn 143 [.ptr 3 []] []])),
   (4,.A9 157 4 (l.map Cu.enc)),(3,.box 248 (KF s j 4 l.length)),(2,.box 35 (.d (.int .i64 0))),(1,.box 3 (.d (.int .i64 0))),(0,.box 145 (.d .AT))]->R .normal [(0,.d (.AM s)),(2,.ptr 0 []),(3,.ptr 1 []),(4,.ptr 2 []),(5,.ptr 3 []),(6,.ptr 5 [])] J:=λj l J h1 h2 h3 h4 Q=>
   rn [] (j,l) _ _ ⟨h1,h2,h3⟩ (by simp only;omega) rfl (by rw[Q];simp[AE]) (by simp[AE]) (by simp[AE])
  clear rn;by_cases f:i<s.length
  ·rw[Yna f]at b;generalize x:s[i]?.getD 0=c at *;have r:s[i]=c:=by rw[<-x];simp[f]
   have g:=c.toNat_lt;have u:(a.map Cu.enc).length<=1000000:=by simp;omega
   have L:F5 s 0=.GW i->R (.panic (.d (.iface 242 (.int .i64 i)))) [(2,.ptr 0 []),(3,.ptr 1 []),(4,.ptr 2 [])] [(5,.box 249 (.agg [.fn 139 [.ptr 3 []] [],.fn 140 [.ptr 3 []] [],.fn 141 [.ptr 3 []] [],.fn 142 [.ptr 3 []] [],.fn 143 [.ptr 3 []] []])),
    (4,.A9 157 4 (a.map Cu.enc)),(3,.box 248 (KF s i 4 a.length)),(2,.box 35 (.d (.int .i64 0))),(1,.box 3 (.d (.int .i64 0))),(0,.box 145 (.d .AT))]:=λhr=>by
    refine rp _ _ _ ?_;simp;refine Ysj hPp (Ea:=145) (Eb:=3) (Ec:=35) (va:=.d .AT) (vb:=.d (.int .i64 0)) (vc:=.d (.int .i64 0)) (by simp) (by simp) (by simp) (by simp) (by simp) (by simp) rfl rfl rfl ?_;simp;rw[hr]at h;exact h
   have hx:∀(o5:Ob),AA [(5,o5),(4,Ob.A9 157 4 (a.map Cu.enc)),(3,Ob.box 248 (KF s i 4 (a.map Cu.enc).length)),(2,.box 35 (.d (.int .i64 0))),(1,.box 3 (.d (.int .i64 0))),(0,.box 145 (.d .AT))] 3=some (.box 248 (KF s i 4 (a.map Cu.enc).length)):=λ_=>by simp
   have ab:=X04 c.toNat g;have aa:∀m:Nat,F1 c.toNat=m->(F1 c.toNat).toNat=m:=λm e=>by omega
   have X:=X05 c.toNat g;have Y:=vY c.toNat g;have Z:=dp c.toNat g;have g4:=Yaf c.toNat g;have F:F1 c.toNat≠4->¬(c=47/\(s.drop (i+1)).head? = some 47):=λW h=>by
    obtain⟨rfl,_⟩:=h;exact W (by decide +kernel)
   have w:∀m:Int,F1 c.toNat=m->(WZ c=decide (m=1))/\(R7 c=decide (m=2))/\(Yo c=decide (m=3))/\(Et c=decide (m=4)):=λm e=>by
    rw[e]at X Y Z g4;refine⟨?_,?_,?_,?_⟩<;>rw[Dl,Bs]
    ·exact X.symm
    ·exact Y.symm
    ·exact Z.symm
    ·exact g4.symm
   have v:∀p:UInt8->Bool,p c=true->tw p s i=((s.drop (i+1)).takeWhile p).length+1/\(s.drop i).takeWhile p=c::(s.drop (i+1)).takeWhile p:=λp z=>by
    refine⟨(Yp4 p f (by rw[x];exact z)).2,?_⟩;rw[Qo f,x,QZ,BL z]
   rcases (by omega:F1 c.toNat=0\/F1 c.toNat=1\/F1 c.toNat=2\/F1 c.toNat=3\/F1 c.toNat=4) with e|e|e|e|e
   ·obtain⟨n,q,G,H⟩:=w 0 e;simp only[LA,n,q,G,H,F (by rw[e];decide),Ci,Kt]at b;simp[O5,f,r,g,show(c.toNat:Int)<256 by omega,e,d1];refine Yit hPp s i (a.map Cu.enc) (y:=4) (by simp) ?_;simp;exact L (by simpa using b)
   ·obtain⟨n,q,G,H⟩:=w 1 e;simp[LA,n]at b;simp[O5,f,r,g,show(c.toNat:Int)<256 by omega,e,d2];refine Yiz hPp s i (a.map Cu.enc) (by omega) f (y:=4) (by simp) (by simp) ?_;simp;refine N (i+1) a _ (by omega) (by omega) b (by omega) (by simp)
   ·obtain⟨n,q,G,H⟩:=w 2 e;have z:V3 c=true:=by
     have:V1 c.toNat=true:=by simpa[R7]using q
     simp[V3,Nx,this]
    obtain⟨t1,O⟩:=v V3 z;have M:=Pc V3 s i (by omega);have n:WZ c=false:=by simpa using n
    have q:R7 c=true:=by simpa using q
    simp only[LA,n,q,F (by rw[e];decide),BF,Ci,Cz]at b;simp[O5,f,r,g,show(c.toNat:Int)<256 by omega,e,d3];refine Ysh hPp s i (a.map Cu.enc) (by omega) f u (y:=4) (by simp) (by simp) (λo=>?_) (λo=>?_)
    ·simp;rw[Af (by omega)]at b;exact L (by simpa[Kt]using b)
    ·simp[LV];rw[BL (by omega)]at b;simp only[eK]at b;have t:i+((s.drop (i+1)).takeWhile V3).length+1=i+tw V3 s i:=by omega
     rw[t]at b;refine N (i+tw V3 s i) (a++[⟨1,c::(s.drop (i+1)).takeWhile V3,0,i⟩]) _ (by omega) (by simp;omega) b (by omega) ?_;simp[Cu.enc,O]
   ·obtain⟨n,q,G,H⟩:=w 3 e;have z:Yo c=true:=by simpa using G
    obtain⟨t1,O⟩:=v Yo z;have M:=Pc Yo s i (by omega);have n:WZ c=false:=by simpa using n
    have q:R7 c=false:=by simpa using q
    simp only[LA,n,q,z,F (by rw[e];decide),BF,Ci,Cz]at b;simp[O5,f,r,g,show(c.toNat:Int)<256 by omega,e,d4];refine X0m hPp s i (a.map Cu.enc) (by omega) f u (y:=4) (by simp) (by simp) (by rw[x];exact z) (λo=>?_) (λm o=>?_)
    ·simp;rw[O]at o;rw[o]at b;exact L (by simpa[Kt]using b)
    ·simp[LV];rw[O]at o;rw[o]at b;simp only[eK]at b;have t:i+((s.drop (i+1)).takeWhile Yo).length+1=i+tw Yo s i:=by omega
     rw[t]at b;refine N (i+tw Yo s i) (a++[⟨2,[],m,i⟩]) _ (by omega) (by simp;omega) b (by omega) ?_;simp[Cu.enc]
   ·obtain⟨n,q,G,H⟩:=w 4 e;simp[O5,f,r,g,show(c.toNat:Int)<256 by omega,e,d5];refine Yiy hPp s i (a.map Cu.enc) (by omega) f u (y:=4) (by simp) (by simp) (by rw[x];simpa using H) (λo=>?_) (λo=>?_)
    ·rw[x]at o;obtain⟨rfl,Q⟩:=o;obtain⟨t1,O⟩:=v J2 rfl;have M:=Pc J2 s i (by omega);simp only[LA,n,Q,and_self,Cz,Bs,show ¬((4:Int)=1) by decide,Ci]at b;simp;have t:i+((s.drop (i+1)).takeWhile J2).length+1=i+tw J2 s i:=by omega
     rw[t]at b;refine N (i+tw J2 s i) a _ (by omega) (by omega) b (by omega) ?_;simp
    ·rw[x]at o;simp only[LA,n,q,G,H,o,Ci,Bs,show ¬((4:Int)=1) by decide,show ¬((4:Int)=2) by decide,show ¬((4:Int)=3) by decide,Cz,eK]at b;simp[LV];refine N (i+1) (a++[⟨3,[c],0,i⟩]) _ (by omega) (by simp;omega) b (by omega) ?_;simp[Cu.enc,x]
  ·have T:i=s.length:=by omega
   subst T;simp[O5];refine re _ _ _ ?_;simp;refine Ysi hPp ?_;simp;rw[Ycw (BV _)]at b;rw[b]at h;simpa[Kt,oS,OH]using h
end
open Go.RowKit in
set_option maxHeartbeats 1000000 in
def L4(b:Nat)(w:World)(f:w.cell? ⟨b,0,none⟩=some (.pointer (some ⟨b,0,none⟩))):
 Calls prog 259 #[.pointer (some ⟨b,0,none⟩)] w λe d=>e=.returned (.tuple #[])/\d=w:=by
 have a:(prog.info? 311).map (·.size)=some 2:=by kernel_rfl
 obtain⟨j,c,_⟩:=D9.1 a
 go_enter Tryz.func259,Tryz.ntmps259
 go_wp2
 rw[Lib.run_neq_ptr_same w _ Tryz.underlying309 c]
 go_wp2
 go_end0
 exact⟨rfl,rfl⟩
open Go.RowKit in
set_option maxHeartbeats 1000000 in
def KP(b:Nat)(w:World)(k:w.cell? ⟨b,0,none⟩=some (.pointer none))(a:w.shape? b=some (311,2))(h:w.frozen? ⟨b,0,none⟩=false):
 Calls prog 259 #[.pointer (some ⟨b,0,none⟩)] w λe i=>e=.returned (.tuple #[])/\i=w.setCell ⟨b,0,none⟩ (.pointer (some ⟨b,0,none⟩)):=by
 have f:(prog.info? 311).map (·.size)=some 2:=by kernel_rfl
 have g:liesAt prog prog.depth 311 (2 / prog.cellsOf 311) 0 311 1=true:=by kernel_rfl
 obtain⟨j,d,c⟩:=D9.1 f
 go_enter Tryz.func259,Tryz.ntmps259
 go_wp2
 rw[Lib.run_to_unsafe w ⟨b,0,none⟩ Tryz.underlying309 Tryz.underlying387 d (by rw[c];decide) a (Nat.zero_lt_succ 1)];simp only[Result.andThen];rw[Oper.upon_value]
 go_wp2
 rw[run_callFunc_extern Tryz.func279 (by kernel_rfl) (by kernel_rfl) (by kernel_rfl) (e:=Extern.AbiNoEscape.same) (by kernel_rfl)];rw[Lib.run_noEscape];simp only[Result.andThen];rw[Oper.upon_value]
 go_wp2
 rw[Lib.run_from_unsafe w ⟨b,0,none⟩ Tryz.underlying387 Tryz.underlying309 d a g];simp only[Result.andThen];rw[Oper.upon_value]
 go_wp2
 go_end0
 exact⟨rfl,rfl⟩
def CE:∀t:List UInt8,(A2 t).length=t.length
|[]=>rfl
|_::r=>by simp[A2,CE r]
def DG:∀s t:List UInt8,A2 (s++t)=A2 s++A2 t
|[],_=>rfl
|_::r,t=>by simp[A2,DG r t]
def EU{b:AB}(a:Nat->Bool)(k:Nat)(h:AH a b=true):AH a (AG b k .AY)=true:=by
 induction b with
 |nil=>rfl
 |cons e r c=>
  obtain⟨j,o⟩:=e;simp only[AG];split
  ·cases o<;>simp_all[AH]
  ·cases o<;>simp_all[AH]
include hP
theorem TK{n:AB}{x:Nat}(m:AA n x=some (.box 311 (.d (.agg [.B1,.AT])))){K:A7->AB->Prop}(h:K (.ret (.BE [])) (AG n x (.box 311 (.agg [.ptr x [],.d .AT])))):AV P 259 [.ptr x []] n K:=by
 refine⟨λw o p j N s=>?_⟩;obtain⟨b,M,g,a,r⟩:=j.BU x _ m;simp only[V.Ac,D.An,Bb]at r;obtain⟨G,H,rfl,rfl,J,L,rfl,rfl,rfl⟩:=r;simp only[V.A1,↓reduceCtorEq,false_or]at s;obtain⟨u,Q,rfl,t,rfl⟩:=s;have l:(V.ptr x []).An w o u:=t.elim (λh=>.inr (.inl h)) (λh=>.inr (.inr h));obtain⟨F,O,f,q⟩:=Bh j m l;rw[g]at f;simp only[Bu,RO.box.injEq]at f;obtain⟨rfl,rfl⟩:=f;have c:Sh.off (V.d (.agg [.B1,.AT])).shape []=0:=rfl;rw[c]at q;subst q;rw[hP];have k:(V.agg [.ptr x [],.d .AT]).Ac w o [.pointer (some ⟨b,0,none⟩),.slice none 0 0]:=by
  simp only[V.Ac,Br,D.An];exact⟨[_],[_],rfl,.inl ⟨b,_,g,rfl⟩,[_],[],rfl,rfl,rfl⟩
 obtain⟨z,y⟩:=Dj (t':=.agg [.ptr x [],.d .AT]) j m g a rfl k;refine(KP b w (by simp[World.cell?,a]) (by simp[World.shape?,a]) (by simp[World.frozen?,a])).mono ?_;rintro e R ⟨rfl,rfl⟩;have v:w.setCell ⟨b,0,none⟩ (.pointer (some ⟨b,0,none⟩))=w.setRow b [.pointer (some ⟨b,0,none⟩),.slice none 0 0].toArray:=by
  simp only[World.setCell,World.setRow];congr 1;apply Array.ext_getElem?;intro i;simp only[Nb];split
  next e=>subst e;rw[a];simp
  ·rfl
 rw[v];exact⟨_,_,o,h,CJ.2 ⟨[],rfl,rfl⟩,y,z⟩
theorem NB{k:AB}{x:Nat}{v:V}(p:AA k x=some (.box 311 (.agg [.ptr x [],v]))){K:A7->AB->Prop}(h:K (.ret (.BE [])) k):AV P 259 [.ptr x []] k K:=by
 refine⟨λw q l i G o=>?_⟩;obtain⟨b,F,g,n,d⟩:=i.BU x _ p;simp only[V.Ac,Br]at d;obtain⟨y,z,rfl,d,_⟩:=d;rcases d with⟨r,t,c,rfl⟩|⟨c,_⟩
 ·rw[g]at c;simp only[Bu,RO.box.injEq]at c;obtain⟨rfl,rfl⟩:=c;simp only[V.A1,↓reduceCtorEq,false_or]at o;obtain⟨u,H,rfl,s,rfl⟩:=o;have j:(V.ptr x []).An w q u:=s.elim (λh=>.inr (.inl h)) (λh=>.inr (.inr h));obtain⟨r,t,f,m⟩:=Bh i p j;rw[g]at f;simp only[Bu,RO.box.injEq]at f;obtain⟨rfl,rfl⟩:=f;have a:Sh.off (V.agg [.ptr x [],v]).shape []=0:=rfl;rw[a]at m;subst m;rw[hP];refine(L4 b w (by rw[a]at n;simp[World.cell?,n])).mono ?_;rintro e J ⟨rfl,rfl⟩;exact⟨_,_,q,h,CJ.2 ⟨[],rfl,rfl⟩,i,.refl _ _⟩
 ·rw[g]at c;cases c
theorem oc{f:AB}{x y:Nat}{c:Int}{l:List D}(a:AA f x=some (.box 311 (.agg [.ptr x [],.sl y l.length])))(b:AA f y=some (.A9 5 1 l))(k:l.length<=100000000){K:A7->AB->Prop}(h:K (.ret (.d .Bo)) (AG (AG f y (.A9 5 1 (l++[.int .u8 c]))) x (.box 311 (.agg [.ptr x [],.sl y (l.length+1)])))):AV P 199 [.ptr x [],.d (.int .u8 c)] f K:=by
 have g:(y==x)=false:=by rw[HZ];intro e;subst e;rw[a]at b;cases b
 have i:(x==y)=false:=by rw[HZ];intro e;subst e;rw[a]at b;cases b
 refine Aq hP AO TW TU BD.nil ?_;intro _ j;simp[QH,a];refine NB hP a ?_;simp[a,b,g,i];refine⟨by omega,[],by simp,?_,?_⟩
 ·simp;exact Ar _ _ _ _ _ (BH _ _ _ _ _ _ (j _)) (by simp[a,b])
 ·simpa using h
theorem TM{c:AB}{x y:Nat}{t:List UInt8}{l:List D}(a:AA c x=some (.box 311 (.agg [.ptr x [],.sl y l.length])))(b:AA c y=some (.A9 5 1 l))(j:l.length+t.length<=100000000){K:A7->AB->Prop}(h:K (.ret (.BE [.d (.int .i64 t.length),.d .Bo])) (AG (AG c y (.A9 5 1 (l++A2 t))) x (.box 311 (.agg [.ptr x [],.sl y (l.length+t.length)])))):AV P 200 [.ptr x [],.d (.AM t)] c K:=by
 have f:(y==x)=false:=by rw[HZ];intro e;subst e;rw[a]at b;cases b
 have g:(x==y)=false:=by rw[HZ];intro e;subst e;rw[a]at b;cases b
 refine Aq hP AO NM NJ BD.nil ?_;intro _ i;simp[MK,a];refine NB hP a ?_;simp[a,b,f,g,CE];refine⟨by omega,[],by simp,?_,?_⟩
 ·simp;exact Ar _ _ _ _ _ (BH _ _ _ _ _ _ (i _)) (by simp[a,b])
 ·simpa using h
theorem NC{a:AB}{x:Nat}{t:List UInt8}(b:AA a x=some (.box 311 (.d (.agg [.B1,.AT]))))(f:t.length<=100000000){K:A7->AB->Prop}(h:K (.ret (.BE [.d (.int .i64 t.length),.d .Bo])) ((fresh a,.A9 5 1 (A2 t))::(AG a x (.box 311 (.agg [.ptr x [],.sl (fresh a) t.length]))))):AV P 200 [.ptr x [],.d (.AM t)] a K:=by
 refine Aq hP AO NM NJ BD.nil ?_;intro _ e;simp[MK,b];refine TK hP b ?_;simp[b,CE];have c:AE (fresh a) [fresh a] (fresh a)=false:=by simp[AE]
 refine⟨by omega,[fresh a],by simp,?_,?_⟩
 ·simp[c];exact Ar _ _ _ _ _ (e _) (by simp[b,c])
 ·simpa[c]using h
theorem TJ{a:AB}{x:Nat}(c:AA a x=some (.box 311 (.d (.agg [.B1,.AT])))){K:A7->AB->Prop}(h:K (.ret (.d (.AM []))) a):AV P 202 [.ptr x []] a K:=by
 refine Aq hP AO NN NK BD.nil ?_;intro _ b;simp[ML,c];refine⟨[],by simp,?_,?_⟩
 ·simp[b]
 ·simpa using h
theorem oZ{b:AB}{x y:Nat}{t:List UInt8}(l:AA b x=some (.box 311 (.agg [.ptr x [],.sl y t.length])))(m:AA b y=some (.A9 5 1 (A2 t)))(j:t≠[])(n:t.length<=100000000){K:A7->AB->Prop}(h:K (.ret (.d (.AM t))) (AG b y .AY)):AV P 202 [.ptr x []] b K:=by
 refine Aq hP AO NN NK BD.nil ?_;intro _ k;have g:A2 t≠[]:=by cases t with
 |nil=>exact(j rfl).elim
 |cons c r=>simp[A2]
 simp[ML,l,m,CE,g];have f:∃E z a,(5=E/\1=z/\A2 t=a)/\t.length=a.length:=⟨_,_,_,⟨rfl,rfl,rfl⟩,(CE t).symm⟩
 have e:∃E i a,(5=E/\1=i/\A2 t=a)/\¬i=0/\t.length=a.length/\¬a=[]:=⟨_,_,_,⟨rfl,rfl,rfl⟩,by decide,(CE t).symm,g⟩
 first|refine⟨f,e,f,e,by omega,t,rfl,[],by simp,?_,?_⟩|refine⟨e,by omega,t,rfl,[],by simp,?_,?_⟩
 ·simp;exact EU _ _ (k _)
 ·simpa using h
omit hP
end Go.Ab
namespace Go.Proofs
open Go.Shelf
open Go.Proofs.Tryz (prog)
def Rdq:Go.Shelf.Ren:=⟨λ| 171=>201|243=>260|246=>280|283=>287|284=>288|285=>289|286=>290|129=>271|317=>296|318=>297|319=>298|320=>299|337=>302|338=>303|n=>n,λ| 3=>3|9=>9|2=>2|4=>4|171=>396|0=>0|53=>369|37=>108|5=>5|173=>398|212=>406|51=>320|20=>20|213=>407|46=>141|232=>70|233=>368|n=>n,λ| 17=>7|18=>8|19=>9|n=>n⟩
def Rdr:Go.Proofs.LaysM.n171 prog Rdq:={
 mixed:=by kernel_rfl
 f129:=Tryz.func271.trans (CK some (by kernel_rfl))
 f171:=Tryz.func201.trans (CK some (by kernel_rfl))
 f243:=Tryz.func260.trans (CK some (by kernel_rfl))
 f246:=Tryz.func280.trans (CK some (by kernel_rfl))
 f283:=Tryz.func287.trans (CK some (by kernel_rfl))
 f284:=Tryz.func288.trans (CK some (by kernel_rfl))
 f285:=Tryz.func289.trans (CK some (by kernel_rfl))
 f286:=Tryz.func290.trans (CK some (by kernel_rfl))
 f317:=Tryz.func296.trans (CK some (by kernel_rfl))
 f318:=Tryz.func297.trans (CK some (by kernel_rfl))
 f319:=Tryz.func298.trans (CK some (by kernel_rfl))
 f320:=Tryz.func299.trans (CK some (by kernel_rfl))
 f337:=Tryz.func302.trans (CK some (by kernel_rfl))
 f338:=Tryz.func303.trans (CK some (by kernel_rfl))
 t0:=Tryz.underlying0
 a0:=Tryz.isAgg0
 z0:=Tryz.sizeOf0
 v0:=Tryz.zeroValue0
 t2:=Tryz.underlying2
 a2:=Tryz.isAgg2
 z2:=Tryz.sizeOf2
 v2:=Tryz.zeroValue2
 t3:=Tryz.underlying3
 a3:=Tryz.isAgg3
 z3:=Tryz.sizeOf3
 v3:=Tryz.zeroValue3
 t4:=Tryz.underlying4
 a4:=Tryz.isAgg4
 z4:=Tryz.sizeOf4
 v4:=Tryz.zeroValue4
 t5:=Tryz.underlying5
 a5:=Tryz.isAgg5
 z5:=Tryz.sizeOf5
 v5:=Tryz.zeroValue5
 t9:=Tryz.underlying9
 a9:=Tryz.isAgg9
 z9:=Tryz.sizeOf9
 v9:=Tryz.zeroValue9
 t20:=Tryz.underlying20
 a20:=Tryz.isAgg20
 z20:=Tryz.sizeOf20
 v20:=Tryz.zeroValue20
 t37:=Tryz.underlying108
 a37:=Tryz.isAgg108
 z37:=Tryz.sizeOf108
 v37:=Tryz.zeroValue108
 t46:=Tryz.underlying141
 a46:=Tryz.isAgg141
 z46:=Tryz.sizeOf141
 v46:=Tryz.zeroValue141
 t51:=Tryz.underlying320
 a51:=Tryz.isAgg320
 z51:=Tryz.sizeOf320
 v51:=Tryz.zeroValue320
 t53:=Tryz.underlying369
 a53:=Tryz.isAgg369
 z53:=Tryz.sizeOf369
 v53:=Tryz.zeroValue369
 t171:=Tryz.underlying396
 a171:=Tryz.isAgg396
 z171:=Tryz.sizeOf396
 v171:=Tryz.zeroValue396
 t173:=Tryz.underlying398
 a173:=Tryz.isAgg398
 z173:=Tryz.sizeOf398
 v173:=Tryz.zeroValue398
 t212:=Tryz.underlying406
 a212:=Tryz.isAgg406
 z212:=Tryz.sizeOf406
 v212:=Tryz.zeroValue406
 t213:=Tryz.underlying407
 a213:=Tryz.isAgg407
 z213:=Tryz.sizeOf407
 t232:=Tryz.underlying70
 a232:=Tryz.isAgg70
 z232:=Tryz.sizeOf70
 v232:=Tryz.zeroValue70
 t233:=Tryz.underlying368
 a233:=Tryz.isAgg368
 z233:=Tryz.sizeOf368
 v233:=Tryz.zeroValue368
 g17:=by kernel_rfl
 g18:=by kernel_rfl
 g19:=by kernel_rfl
 i0:=by kernel_rfl
 i2:=by kernel_rfl
 i3:=by kernel_rfl
 i4:=by kernel_rfl
 i5:=by kernel_rfl
 i9:=by kernel_rfl
 i20:=by kernel_rfl
 i37:=by kernel_rfl
 i46:=by kernel_rfl
 i51:=by kernel_rfl
 i53:=by kernel_rfl
 i171:=by kernel_rfl
 i173:=by kernel_rfl
 i212:=by kernel_rfl
 i232:=by kernel_rfl
 i233:=by kernel_rfl
 m17:=by kernel_rfl
 m18:=by kernel_rfl
 m19:=by kernel_rfl}
open Go.RowKit Go.Sort Go.Lib in
def Tryz.strconv_Itoa(n:Int)(b:-9223372036854775808<=n)(c:n<=9223372036854775807)(w:World)(a:Lib.TabIs prog w "internal/strconv.uint64pow10" .u64 Lib.pow10Tab):
 Calls prog 201 #[.int .i64 n] w λe f=>e=.returned (.string ⟨(Lib.itoa n).toArray⟩)/\∃k d,f=grow (w.drewN k) d:=Any.strconv_Itoa Rdr n b c w a
def Rds:Go.Shelf.Ren:=⟨λ| 144=>258|143=>278|219=>286|217=>292|225=>293|224=>294|267=>295|266=>300|314=>301|n=>n,λ| 9=>9|4=>4|3=>3|5=>5|46=>141|146=>408|51=>320|n=>n,λ| 1=>6|n=>n⟩
def Rdt:Go.Proofs.Lays.n144 prog Rds:={
 mixed:=by kernel_rfl
 f143:=Tryz.func278.trans (CK some (by kernel_rfl))
 f144:=Tryz.func258.trans (CK some (by kernel_rfl))
 f217:=Tryz.func292.trans (CK some (by kernel_rfl))
 f219:=Tryz.func286.trans (CK some (by kernel_rfl))
 f224:=Tryz.func294.trans (CK some (by kernel_rfl))
 f225:=Tryz.func293.trans (CK some (by kernel_rfl))
 f266:=Tryz.func300.trans (CK some (by kernel_rfl))
 f267:=Tryz.func295.trans (CK some (by kernel_rfl))
 f314:=Tryz.func301.trans (CK some (by kernel_rfl))
 t3:=Tryz.underlying3
 a3:=Tryz.isAgg3
 z3:=Tryz.sizeOf3
 v3:=Tryz.zeroValue3
 t4:=Tryz.underlying4
 a4:=Tryz.isAgg4
 z4:=Tryz.sizeOf4
 v4:=Tryz.zeroValue4
 t5:=Tryz.underlying5
 a5:=Tryz.isAgg5
 z5:=Tryz.sizeOf5
 v5:=Tryz.zeroValue5
 t9:=Tryz.underlying9
 a9:=Tryz.isAgg9
 z9:=Tryz.sizeOf9
 v9:=Tryz.zeroValue9
 t46:=Tryz.underlying141
 a46:=Tryz.isAgg141
 z46:=Tryz.sizeOf141
 v46:=Tryz.zeroValue141
 t51:=Tryz.underlying320
 a51:=Tryz.isAgg320
 z51:=Tryz.sizeOf320
 v51:=Tryz.zeroValue320
 t146:=Tryz.underlying408
 a146:=Tryz.isAgg408
 z146:=Tryz.sizeOf408
 v146:=Tryz.zeroValue408
 g1:=by kernel_rfl}
open Go.RowKit Go.Lib in
def Tryz.strings_Contains_one(s:ByteArray)(c:UInt8)(w:World):
 Calls prog 258 #[.string s,.string ⟨#[c]⟩] w λe a=>e=.returned (.bool (decide (0<=Lib.indexByte s.data.toList c)))/\a=w:=Any.strings_Contains_one Rdt s c w
end Go.Proofs
namespace Go.Ab
open Go Go.Proofs
open Go.Proofs.Tryz (prog)
variable {P:Az}(hP:P.p=prog)
def IY(s:List UInt8)(c:UInt8):Bool:=s.any λb=>b==c
def P8:Ab.Fn:=⟨λa=>match a with|[.d (.AM _),.d (.AM t)]=>t.length=1|_=>False,λa=>match a with|[.d (.AM s),.d (.AM t)]=>.d (.bool (IY s (t.headD 0)))|_=>.any⟩
@[simp]def fnC_pre(s t:List UInt8):P8.pre [.d (.AM s),.d (.AM t)]=(t.length=1):=by simp only[P8]
@[simp]def fnC_val(s t:List UInt8):P8.val [.d (.AM s),.d (.AM t)]=.d (.bool (IY s (t.headD 0))):=by simp only[P8]
def EX(t:Cu):Bool:=
 if t.kind=1 then Dq t.Gd&&decide (t.n=0)
 else if t.kind=2 then decide (t.Gd=[])&&decide (0<=t.n)&&decide (t.n<=1099511627776)
 else if t.kind=3 then decide (t.Gd.length=1)&&Et (t.Gd.headD 0)&&decide (t.n=0)
 else false
def NU(P:Az):Prop:=∃T f,P.g 7=some (.cells (Lib.pow10Tab.map λz=>Value.int .u64 z).toArray T f)
def KQ(w:World)(k:Nat)(c:Array Obj):Bv w (Go.Sort.grow (w.drewN k) c):=by
 refine⟨by simp[Go.Sort.grow],λb a=>?_,rfl,rfl,rfl,Nat.le_add_right _ _⟩;simp[Go.Sort.grow,LI,a]
def IU(s:List UInt8)(c:UInt8):decide (0<=Lib.indexByte s c)=IY s c:=by
 unfold IY;induction s with
 |nil=>rfl
 |cons b r e=>
  have f:=Lib.indexByte_ge r c;simp only[Lib.indexByte,List.any_cons,<-e];by_cases h:b==c
  ·simp[h]
  ·simp only[h];by_cases a:Lib.indexByte r c=-1
   ·simp[a]
   ·have d:(Lib.indexByte r c==-1)=false:=by simp[a]
    simp only[d,Bool.false_or];have:0<=Lib.indexByte r c:=by omega
    simp[this];omega
def HL(c:UInt8):IY [123,125,40,41,59,44,61,35,47,60,33,45,46,58,43] c=Et c:=by
 unfold IY Et Ke DO;congr 1;funext b;rw[Dl];simp only[CT,Bs,Int.natCast_inj];constructor
 ·intro h;rw[h]
 ·intro h;exact UInt8.toNat_inj.1 h
def pE(s:List UInt8):decide ((s.length:Int)=1)=decide (s.length=1):=by
 rw[Dl];simp only[Bs];omega
def TR(s:List UInt8):s[0]? = s.head?:=by cases s<;>rfl
include hP
theorem HF:Te P 258 P8:=by
 intro p a m K b;simp only[P8]at a b;split at a
 ·rename_i s t;simp only at b
  match t,a with
  |[c],_=>
   refine⟨λw q f l k g=>?_⟩;simp only[V.A1,↓reduceCtorEq,false_or,V.isAgg,BF,false_and,V.Ac,D.An,true_and,HY,GK]at g;obtain⟨u,o,rfl,h,n,i,rfl,d,rfl⟩:=g;subst h;subst d;rw[hP];refine(Tryz.strings_Contains_one ⟨s.toArray⟩ c w).mono ?_;rintro e j ⟨rfl,rfl⟩;refine⟨_,_,b,rfl,?_,Bv.refl j⟩;rw[BI,IU];rfl
 ·cases a
theorem KN(b:NU P)(n:Int)(s:0<=n)(i:n<=9223372036854775807){q:AB}{K:V->Prop}(h:K (.d (.AM (Lib.itoa n)))):AU P 201 [.d (.int .i64 n)] q K:=by
 refine⟨λw x c o l g=>?_⟩;simp only[V.A1,↓reduceCtorEq,false_or,V.isAgg,BF,false_and,V.Ac,D.An,true_and,HY,GK]at g;obtain⟨u,t,rfl,p,rfl⟩:=g;subst p;rw[hP];obtain⟨T,f,b⟩:=b;have j:=(o.Dn 7 _ (by rw[l,b])).1
 have a:Lib.TabIs prog w "internal/strconv.uint64pow10" .u64 Lib.pow10Tab:=by
  have m:prog.globalNamed "internal/strconv.uint64pow10" = some 7:=by kernel_rfl
  simp only[Lib.TabIs,World.var?,m,Option.bind_some,j]
 refine(Tryz.strconv_Itoa n (by omega) i w a).mono ?_;rintro e v ⟨rfl,k,r,rfl⟩;exact⟨_,_,h,rfl,B7.2 rfl,KQ w k r⟩
theorem Hx(t:Cu){j:AB}{K:V->Prop}(h:K (.d (.bool (EX t)))):AU P 198 [.d t.enc] j K:=by
 refine AJ hP AO (ds:=[t.enc]) TV TT (BD.cons (OQ hP) (BD.cons (HF hP) BD.nil)) ?_;have a:∀x,x=EX t->K (.d (.bool x)):=λb e=>e▸h;clear h;obtain⟨k,s,n,i⟩:=t;simp[QG,Cu.enc,HL];refine⟨λc=>a _ ?_,λc=>⟨λf=>a _ ?_,λf=>⟨λg=>⟨λl=>by omega,a _ ?_⟩,λg=>a _ ?_⟩⟩⟩
 ·subst c;simp[EX,Bool.beq_eq_decide_eq]
 ·subst f;simp[EX]
 ·subst g;simp[EX,Bool.beq_eq_decide_eq,pE,Et,TR]
 ·simp[EX,c,f,g]
omit hP
def jD(n:Nat):UInt8:=UInt8.ofNat (48+n % 10)
def Vr(n:Nat):Lib.decDigits n=(if n<10 then[] else Lib.decDigits (n / 10))++[jD n]:=by
 rw[Lib.decDigits];split
 next h=>simp[jD,Nat.mod_eq_of_lt h]
 ·simp[jD]
def Yco(n:Nat):Lib.itoa n=Lib.decDigits n:=by
 unfold Lib.itoa;rw[Af (by omega)];rfl
end Go.Ab
