/- Calls computed by the kernel. No condition. -/
import Derived.Test.YtfedhegpmfkfoaaGreatDoorH10
set_option maxRecDepth 100000
namespace Go.Ab
open Go Go.Proofs
def TQ:D:=.agg [(.agg [.AT,.AT,.AT,.AT,.AT,.AT]),.AT]
def eD1:D:=.agg [(.int .i64 1),(.int .i64 0),(.int .i64 0),(.int .i64 0)]
def eD2:D:=.agg [(.AM []),(.AM []),(.int .i64 0),(.int .i64 0),(.int .i64 0)]
def eD3:D:=.agg [(.AM []),(.AM []),(.int .i64 (-1)),(.int .i64 0),(.int .i64 0)]
def eD4:D:=.agg [(.int .i64 3),(.int .i64 0),(.int .i64 4095),(.AM []),(.int .i64 0),.AT]
def eD5:D:=.agg [(.int .i64 3),(.int .i64 0),(.int .i64 4095),(.AM []),(.int .i64 (-1)),.AT]
def P4:D:=.agg [(.AF 1 []),(.AF 5 []),(.AF 6 []),(.AF 5 []),(.AF 5 []),(.AF 3 [])]
def eD7:D:=.agg [P4,.AT]
def eD8:D:=.agg [(.AM [120]),(.AM [98]),(.int .i64 0),eD2]
def eD9:D:=.agg [(.AM [120]),(.AM [97]),(.int .i64 0),eD2]
def Zh2:D:=.agg [(.AM [120]),(.AM [98]),(.int .i64 1),eD3]
def Zh3:D:=.agg [(.AM [120]),(.AM [97]),(.int .i64 0),eD3]
def Zh4:D:=.AF 8 [eD8]
def Zh5:D:=.AF 8 [eD9]
def Zh6:D:=.AF 8 [Zh2]
def Zh7:D:=.AF 8 [Zh3]
def Zh8:D:=.agg [(.AM [115,101,108,102]),eD4,eD1]
def Zh9:D:=.agg [(.AM [115,101,108,102]),eD5,eD1]
def Zb8:D:=.agg [(.AM [97]),(.int .i64 0),Zh4,(.AF 11 []),(.AF 7 [])]
def Zia:D:=.agg [(.AM [98]),(.int .i64 0),Zh5,(.AF 11 []),(.AF 7 [])]
def jE:D:=.agg [(.AM [97]),(.int .i64 0),Zh6,(.AF 11 []),(.AF 7 [])]
def Zib:D:=.agg [(.AM [98]),(.int .i64 1),Zh7,(.AF 11 []),(.AF 7 [])]
def Zb9:D:=.AF 11 [Zh8]
def Zca:D:=.AF 11 [Zh9]
def Zic:D:=.AF 5 [Zb8]
def Zid:D:=.AF 5 [jE]
def Zie:D:=.agg [(.AM [97]),(.AM [105]),(.int .i64 0),(.int .i64 1),Zb9,(.AF 4 [])]
def Zif:D:=.agg [(.AM [98]),(.AM [105]),(.int .i64 0),(.int .i64 1),Zb9,(.AF 4 [])]
def Zcb:D:=.agg [(.AM [97]),(.AM [105]),(.int .i64 0),(.int .i64 1),Zca,(.AF 4 [])]
def Zcc:D:=.agg [(.AM [98]),(.AM [105]),(.int .i64 0),(.int .i64 1),Zca,(.AF 4 [])]
def Zig:D:=.AF 5 [Zb8,Zia]
def Zih:D:=.AF 5 [jE,Zib]
def Zcd:D:=.AM [105,115,115,117,101,114,32,105,59,32,115,99,104,101,109,97,32,97,32,98,121,32,105,32,118,101,114,115,105,111,110,32,49,32,115,101,108,102,32,49,32,48,32,48,32,48,32,123,32,125,32,115,99,104,101,109,97,32,98,32,98,121,32,105,32,118,101,114,115,105,111,110,32,49,32,115,101,108,102,32,49,32,48,32,48,32,48,32,123,32,125,32,100,101,114,105,118,101,32,97,32,123,32,102,114,111,109,32,120,32,98,59,32,125]
def Zce:D:=.AF 6 [Zie,Zif]
def Zcf:D:=.AF 6 [Zcb,Zcc]
def Zcg:D:=.AM [47,47,32,119,104,97,116,32,105,115,32,100,101,114,105,118,101,100,10,105,115,115,117,101,114,32,105,59,32,115,99,104,101,109,97,32,97,32,98,121,32,105,32,118,101,114,115,105,111,110,32,49,32,115,101,108,102,32,49,32,48,32,48,32,48,32,123,32,125,32,115,99,104,101,109,97,32,98,32,98,121,32,105,32,118,101,114,115,105,111,110,32,49,32,115,101,108,102,32,49,32,48,32,48,32,48,32,123,32,125,32,100,101,114,105,118,101,32,97,32,123,32,102,114,111,109,32,120,32,98,59,32,125]
def Zch:D:=.AM [105,115,115,117,101,114,32,105,59,32,115,99,104,101,109,97,32,97,32,98,121,32,105,32,118,101,114,115,105,111,110,32,49,32,115,101,108,102,32,49,32,48,32,48,32,48,32,123,32,125,32,115,99,104,101,109,97,32,98,32,98,121,32,105,32,118,101,114,115,105,111,110,32,49,32,115,101,108,102,32,49,32,48,32,48,32,48,32,123,32,125,32,100,101,114,105,118,101,32,97,32,123,32,102,114,111,109,32,120,32,98,59,32,125,32,100,101,114,105,118,101,32,98,32,123,32,102,114,111,109,32,120,32,97,59,32,125]
def jF:D:=.agg [(.AF 1 [(.AM [105])]),(.AF 5 []),Zce,Zic,(.AF 5 []),(.AF 3 [])]
def JM:D:=.agg [(.AF 1 [(.AM [105])]),(.AF 5 []),Zcf,Zid,(.AF 5 []),(.AF 3 [])]
def Pg:D:=.agg [JM,(.AF 1 [(.int .i64 1),(.int .i64 0)])]
def Zci:D:=.agg [(.AF 1 [(.AM [105])]),(.AF 5 []),Zce,Zig,(.AF 5 []),(.AF 3 [])]
def Zcj:D:=.agg [(.AF 1 [(.AM [105])]),(.AF 5 []),Zcf,Zih,(.AF 5 []),(.AF 3 [])]
def Sb:CR:=⟨41,[JM],(.BE [(.d JM),(.d (.int .i64 0))])⟩
def Sc:CR:=⟨45,[JM,JM],(.d (.bool true))⟩
def Sd:CR:=⟨8,[JM],(.d (.int .i64 0))⟩
def Se:CR:=⟨25,[JM],(.BE [(.d (.AF 1 [(.int .i64 1),(.int .i64 0)])),(.d (.bool true)),(.d (.int .i64 0))])⟩
def Sf:CR:=⟨47,[JM],(.d (.int .i64 0))⟩
def Si:CR:=⟨7,[JM],(.BE [(.d Pg),(.d (.int .i64 0))])⟩
def Sj:CR:=⟨20,[Pg,Pg],(.d (.bool true))⟩
def Sk:CR:=⟨12,[Pg],(.d (.int .i64 0))⟩
def Sl:CR:=⟨42,[JM],(.BE [(.d (.AM [105,115,115,117,101,114,32,105,32,59,32,115,99,104,101,109,97,32,97,32,98,121,32,105,32,118,101,114,115,105,111,110,32,49,32,115,101,108,102,32,49,32,48,32,48,32,48,32,123,32,125,32,115,99,104,101,109,97,32,98,32,98,121,32,105,32,118,101,114,115,105,111,110,32,49,32,115,101,108,102,32,49,32,48,32,48,32,48,32,123,32,125,32,100,101,114,105,118,101,32,97,32,123,32,102,114,111,109,32,120,32,98,32,59,32,125])),(.d (.int .i64 0))])⟩
def Sr:CR:=⟨25,[(.agg [.AT,.AT,.AT,.AT,.AT,.AT])],(.BE [(.d .AT),(.d (.bool true)),(.d (.int .i64 0))])⟩
def RM:CR:=⟨7,[(.agg [.AT,.AT,.AT,.AT,.AT,.AT])],(.BE [(.d TQ),(.d (.int .i64 0))])⟩
def RN:CR:=⟨20,[TQ,(.agg [(.agg [.AT,.AT,.AT,.AT,.AT,.AT]),(.AF 1 [(.int .i64 0)])])],(.d (.bool false))⟩
def RP:CR:=⟨40,[(.AM [])],(.BE [(.d P4),(.d (.int .i64 0)),(.d (.int .i64 0))])⟩
def RR:CR:=⟨41,[P4],(.BE [(.d P4),(.d (.int .i64 0))])⟩
def RS:CR:=⟨25,[P4],(.BE [(.d .AT),(.d (.bool true)),(.d (.int .i64 0))])⟩
def RT:CR:=⟨7,[P4],(.BE [(.d eD7),(.d (.int .i64 0))])⟩
def RU:CR:=⟨17,[(.AM [])],(.BE [(.d eD7),(.d (.int .i64 0)),(.d (.int .i64 0))])⟩
def RW:CR:=⟨40,[(.AM [115,99,104,101,109,97])],(.BE [(.d (.agg [.AT,.AT,.AT,.AT,.AT,.AT])),(.d (.int .i64 6)),(.d (.int .i64 100))])⟩
def RX:CR:=⟨17,[(.AM [115,99,104,101,109,97])],(.BE [(.d TQ),(.d (.int .i64 6)),(.d (.int .i64 100))])⟩
def RY:CR:=⟨40,[Zch],(.BE [(.d Zci),(.d (.int .i64 0)),(.d (.int .i64 0))])⟩
def RZ:CR:=⟨41,[Zci],(.BE [(.d Zcj),(.d (.int .i64 0))])⟩
def RD:CR:=⟨7,[Zcj],(.BE [(.d TQ),(.d (.int .i64 141))])⟩
def RE:CR:=⟨17,[Zch],(.BE [(.d TQ),(.d (.int .i64 0)),(.d (.int .i64 141))])⟩
def RF:CR:=⟨40,[Zcd],(.BE [(.d jF),(.d (.int .i64 0)),(.d (.int .i64 0))])⟩
def RG:CR:=⟨41,[jF],(.BE [(.d JM),(.d (.int .i64 0))])⟩
def RH:CR:=⟨17,[Zcd],(.BE [(.d Pg),(.d (.int .i64 0)),(.d (.int .i64 0))])⟩
def RI:CR:=⟨40,[Zcg],(.BE [(.d jF),(.d (.int .i64 0)),(.d (.int .i64 0))])⟩
def RL:CR:=⟨17,[Zcg],(.BE [(.d Pg),(.d (.int .i64 0)),(.d (.int .i64 0))])⟩
def XY:List CR:=[]
def XZ:List CR:=Sb::XY
def YA:List CR:=Sc::XZ
def YB:List CR:=Sd::YA
def YC:List CR:=Se::YB
def YD:List CR:=Sf::YC
def YE:List CR:=Si::YD
def YF:List CR:=Sj::YE
def XW:List CR:=Sk::YF
def XX:List CR:=Sl::XW
def WH:List CR:=Sr::XX
def WI:List CR:=RM::WH
def WJ:List CR:=RN::WI
def WK:List CR:=RP::WJ
def WL:List CR:=RR::WK
def WM:List CR:=RS::WL
def WN:List CR:=RT::WM
def WO:List CR:=RU::WN
def WQ:List CR:=RW::WO
def WR:List CR:=RX::WQ
def WS:List CR:=RY::WR
def WT:List CR:=RZ::WS
def WU:List CR:=RD::WT
def WV:List CR:=RE::WU
def WW:List CR:=RF::WV
def WX:List CR:=RG::WW
def WA:List CR:=RH::WX
def WB:List CR:=RI::WA
def Yeo:List CR:=RL::WB
theorem Yjt(a:AB):(DN 3000 Qg (CQ XY) 40).pc Sb.f (Sb.xs.map .d) a=some Sb.v:=by kernel_rfl
theorem Yju(a:AB):(DN 3000 Qg (CQ XZ) 40).pc Sc.f (Sc.xs.map .d) a=some Sc.v:=by kernel_rfl
theorem Yjv(a:AB):(DN 3000 Qg (CQ YA) 40).pc Sd.f (Sd.xs.map .d) a=some Sd.v:=by kernel_rfl
theorem Yjw(a:AB):(DN 3000 Qg (CQ YB) 40).pc Se.f (Se.xs.map .d) a=some Se.v:=by kernel_rfl
theorem Yjx(a:AB):(DN 3000 Qg (CQ YC) 40).pc Sf.f (Sf.xs.map .d) a=some Sf.v:=by kernel_rfl
theorem Yjy(a:AB):(DN 3000 Qg (CQ YD) 40).pc Si.f (Si.xs.map .d) a=some Si.v:=by kernel_rfl
theorem Yjz(a:AB):(DN 3000 Qg (CQ YE) 40).pc Sj.f (Sj.xs.map .d) a=some Sj.v:=by kernel_rfl
theorem Yj0(a:AB):(DN 3000 Qg (CQ YF) 40).pc Sk.f (Sk.xs.map .d) a=some Sk.v:=by kernel_rfl
end Go.Ab
