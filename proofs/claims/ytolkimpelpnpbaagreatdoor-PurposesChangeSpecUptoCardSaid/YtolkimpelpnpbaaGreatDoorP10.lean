/- Texts of this claim joined by a program, part 10 of 20; the last is: One call of the purposes' examples, computed by the kernel. No condition. -/
import Derived.Test.YtolkimpelpnpbaaGreatDoorP9
import Derived.KernelRfl
set_option maxRecDepth 100000
set_option linter.unusedSimpArgs false
set_option linter.unusedVariables false
set_option linter.unusedSectionVars false
set_option linter.defProp false
namespace Go.Proofs.YtolkimpelpnpbaaGreatDoor
open Go Go.Ab Go.Py
def eD0:D:=.list 1 [(.str [105])]
def eD1:D:=.list 1 [(.int .i64 0)]
def eD2:D:=.str [115,101,108,102]
def eD3:D:=.str [98,105,114,116,104]
def eD4:D:=.str [117,110,116,105,108]
def eD5:D:=.str [109,111,116,104,101,114]
def eD6:D:=.agg [(.int .i64 0),(.int .i64 1)]
def eD7:D:=.agg [(.int .i64 0),(.int .i64 2)]
def eD8:D:=.agg [(.int .i64 0),(.int .i64 3)]
def eD9:D:=.agg [(.int .i64 0),(.int .i64 0),(.int .i64 0),(.int .i64 0)]
def Zax:D:=.agg [(.str []),(.str []),(.int .i64 0),(.int .i64 0),(.int .i64 0)]
def Zix:D:=.agg [(.str []),(.str []),(.int .i64 (-1)),(.int .i64 0),(.int .i64 9)]
def Ziy:D:=.agg [(.str []),(.str []),(.int .i64 (-1)),(.int .i64 0),(.int .i64 3)]
def Ziz:D:=.agg [(.str [112]),eD3,(.int .i64 0),(.bool false)]
def Zay:D:=.agg [(.int .i64 3),(.int .i64 0),(.int .i64 4095),(.str []),(.int .i64 0),.nils]
def Zaz:D:=.agg [(.int .i64 2),(.int .i64 0),(.int .i64 1023),(.str []),(.int .i64 0),.nils]
def Za0:D:=.agg [(.str [112]),(.str [100,97,121]),(.int .i64 0),(.int .i64 1),(.int .i64 0)]
def Za1:D:=.agg [(.int .i64 3),(.int .i64 0),(.int .i64 4095),(.str []),(.int .i64 (-1)),.nils]
def Za2:D:=.agg [(.int .i64 2),(.int .i64 0),(.int .i64 1023),(.str []),(.int .i64 (-1)),.nils]
def Za3:D:=.agg [eD3,(.str [100,97,121]),(.int .i64 0),(.int .i64 0)]
def Y1k:D:=.agg [eD3,(.str [100,97,121]),(.int .i64 0),(.int .i64 1)]
def Yfl:D:=.list 4 [Ziz]
def Zi0:D:=.agg [(.str [112]),eD4,(.int .i64 0),(.int .i64 3),(.int .i64 0)]
def Zi1:D:=.agg [eD3,eD4,(.int .i64 0),(.int .i64 0)]
def Y1l:D:=.agg [eD3,eD4,(.int .i64 0),(.int .i64 3)]
def Zi2:D:=.list 4 [Za3]
def Zi3:D:=.list 4 [Y1k]
def Zi4:D:=.agg [(.str [112]),eD5,(.int .i64 0),(.int .i64 2),(.int .i64 0)]
def Zi5:D:=.agg [eD3,eD5,(.int .i64 0),(.int .i64 0)]
def Y1m:D:=.agg [eD3,eD5,(.int .i64 0),(.int .i64 2)]
def Zi6:D:=.agg [(.str [98,97,114]),Zi2,(.int .i64 1)]
def Ylp:D:=.agg [(.str [98,97,114]),Zi3,(.int .i64 1)]
def Yfm:D:=.agg [(.int .i64 0),Zax,Zax]
def Zi7:D:=.agg [(.str [100,97,121]),Zaz,eD9]
def Zi8:D:=.agg [(.str [100,97,121]),Za2,eD9]
def Zi9:D:=.agg [(.int .i64 2),Za0,Zix]
def Zja:D:=.agg [eD2,Zay,eD9]
def Zjb:D:=.agg [eD2,Za1,eD9]
def Zjc:D:=.agg [eD4,Zaz,eD9]
def Zjd:D:=.agg [eD4,Za2,eD9]
def Zje:D:=.agg [eD5,Zay,eD9]
def Zjf:D:=.agg [eD5,Za1,eD9]
def Zjg:D:=.agg [(.int .i64 1),Zi4,Ziy]
def Zjh:D:=.agg [(.int .i64 2),Za0,Zi0]
def Zji:D:=.agg [(.int .i64 4),(.int .i64 0),.nils,Yfm]
def Zjj:D:=.agg [(.int .i64 0),(.int .i64 0),.nils,Yfm]
def Yyz:D:=.list 4 [Y1m,Y1l]
def Yy0:D:=.agg [(.int .i64 5),(.int .i64 0),.nils,Zi9]
def Zjk:D:=.list 14 [Yy0]
def Y1n:D:=.agg [(.int .i64 5),(.int .i64 0),.nils,Zjg]
def Y1o:D:=.agg [(.int .i64 5),(.int .i64 0),.nils,Zjh]
def Za4:D:=.agg [(.str []),(.int .i64 0),.nils,Zjj]
def Zjl:D:=.list 14 [Y1n]
def Zjm:D:=.list 4 [Za3,Zi1,Zi5]
def Zjn:D:=.list 4 [Y1k,Y1l,Y1m]
def Y1p:D:=.list 4 [Y1k,Y1m,Y1l]
def Y1q:D:=.agg [(.str [113]),(.int .i64 0),Yfl,Zji]
def Zjo:D:=.agg [(.str [97,110,121]),Zjm,(.int .i64 2)]
def Zjp:D:=.agg [(.str [97,110,121]),Zjn,(.int .i64 2)]
def Y1r:D:=.agg [(.str [113]),(.int .i64 1),Yfl,Y1o]
def Zjq:D:=.agg [(.int .i64 3),(.int .i64 1),Zjk,Yfm]
def Zjr:D:=.agg [(.int .i64 3),(.int .i64 1),Zjl,Yfm]
def Zjs:D:=.list 14 [Yy0,Y1n]
def Zjt:D:=.list 14 [Y1o,Yy0]
def Zju:D:=.list 3 [Zi6,Zjo]
def Zjv:D:=.list 3 [Ylp,Zjp]
def Yy1:D:=.agg [(.str [113]),(.int .i64 0),Yfl,Zjq]
def Za5:D:=.agg [(.str [113]),(.int .i64 0),Yfl,Zjr]
def Zjw:D:=.agg [(.int .i64 3),(.int .i64 1),Zjs,Yfm]
def Zjx:D:=.agg [(.int .i64 3),(.int .i64 1),Zjt,Yfm]
def Zjy:D:=.list 14 [Y1o,Yy0,Y1n]
def Zjz:D:=.list 11 [Zja,Zi7,Zje,Zjc]
def Zj0:D:=.list 11 [Zjb,Zi8,Zjf,Zjd]
def Za6:D:=.agg [(.str [113]),(.int .i64 0),Yfl,Zjw]
def Za7:D:=.agg [(.str [113]),(.int .i64 0),Yfl,Zjx]
def Zj1:D:=.agg [eD3,(.str [105]),(.int .i64 0),(.int .i64 1),Zjz,(.list 4 [])]
def Zj2:D:=.list 6 [Zj1]
def Zj3:D:=.agg [eD3,(.str [105]),(.int .i64 0),(.int .i64 1),Zj0,(.list 4 [])]
def Zj4:D:=.list 6 [Zj3]
def Zj5:D:=.agg [(.int .i64 3),(.int .i64 2),Zjy,Yfm]
def Xwh:D:=.agg [(.str [113]),(.int .i64 0),Yfl,Zj5]
def Za8:D:=.str [105,115,115,117,101,114,32,105,59,32,115,99,104,101,109,97,32,98,105,114,116,104,32,98,121,32,105,32,118,101,114,115,105,111,110,32,49,32,115,101,108,102,32,48,32,48,32,48,32,48,32,123,32,102,105,101,108,100,32,100,97,121,32,58,32,100,97,116,101,32,48,32,48,32,48,32,48,59,32,102,105,101,108,100,32,109,111,116,104,101,114,32,58,32,112,101,114,115,111,110,32,48,32,48,32,48,32,48,59,32,102,105,101,108,100,32,117,110,116,105,108,32,58,32,100,97,116,101,32,48,32,48,32,48,32,48,59,32,125,32,112,117,114,112,111,115,101,32,98,97,114,32,123,32,109,97,121,32,98,105,114,116,104,46,100,97,121,59,32,109,111,115,116,32,49,59,32,125,32,112,117,114,112,111,115,101,32,97,110,121,32,123,32,109,97,121,32,98,105,114,116,104,46,100,97,121,59,32,109,97,121,32,98,105,114,116,104,46,117,110,116,105,108,59,32,109,97,121,32,98,105,114,116,104,46,109,111,116,104,101,114,59,32,109,111,115,116,32,50,59,32,125]
def Za9:D:=.agg [eD0,(.list 5 []),Zj2,(.list 5 []),(.list 5 []),Zju]
def Y1s:D:=.agg [eD0,(.list 5 []),Zj4,(.list 5 []),(.list 5 []),Zjv]
def Xkl:D:=.agg [Y1s,eD1]
def Ym3:Ent:=⟨44,[Za8],(.tup [(.d Za9),(.d (.int .i64 0)),(.d (.int .i64 0))])⟩
def Ym4:Ent:=⟨45,[Za9],(.tup [(.d Y1s),(.d (.int .i64 0))])⟩
def Ym5:Ent:=⟨46,[Y1s],(.tup [(.d Xkl),(.d (.int .i64 0))])⟩
def Ym6:Ent:=⟨23,[Za8],(.tup [(.d Xkl),(.d (.int .i64 0)),(.d (.int .i64 0))])⟩
def Ym7:Ent:=⟨24,[Xkl,(.str [98,97,114,32,123,32,102,114,111,109,32,112,32,98,105,114,116,104,59,32,108,101,97,115,116,32,50,32,123,32,112,46,100,97,121,32,60,32,112,46,117,110,116,105,108,59,32,112,46,100,97,121,32,60,32,57,59,32,112,46,109,111,116,104,101,114,32,61,32,51,59,32,125,59,32,125])],(.tup [(.d Xwh),(.d (.bool true))])⟩
def Ym8:Ent:=⟨24,[Xkl,(.str [98,97,114,32,123,32,102,114,111,109,32,112,32,98,105,114,116,104,59,32,104,97,115,32,112,59,32,125])],(.tup [(.d Y1q),(.d (.bool true))])⟩
def Ym9:Ent:=⟨24,[Xkl,(.str [97,110,121,32,123,32,102,114,111,109,32,112,32,98,105,114,116,104,59,32,112,46,100,97,121,32,60,32,112,46,117,110,116,105,108,59,32,125])],(.tup [(.d Y1r),(.d (.bool true))])⟩
def Yna:Ent:=⟨10,[Xkl,Xwh],(.tup [(.d Y1p),(.d (.int .i64 0))])⟩
def Ynb:Ent:=⟨21,[Xkl,Xwh],(.d (.int .i64 0))⟩
def Ync:Ent:=⟨28,[Xwh],(.d (.list 2 [eD6,eD7,eD8]))⟩
def Xza:Ent:=⟨31,[Ylp,Xwh],(.d (.bool false))⟩
def Xzb:Ent:=⟨28,[Za5],(.d (.list 2 [eD7]))⟩
def Xzc:Ent:=⟨31,[Ylp,Za5],(.d (.bool false))⟩
def Xzd:Ent:=⟨28,[Za7],(.d (.list 2 [eD6,eD8]))⟩
def Xze:Ent:=⟨31,[Ylp,Za7],(.d (.bool false))⟩
def Xzf:Ent:=⟨28,[Za6],(.d (.list 2 [eD6,eD7]))⟩
def Xzg:Ent:=⟨31,[Ylp,Za6],(.d (.bool false))⟩
def Xzh:Ent:=⟨28,[Yy1],(.d (.list 2 [eD6]))⟩
def Xzi:Ent:=⟨31,[Ylp,Yy1],(.d (.bool true))⟩
def Xzj:Ent:=⟨18,[Xkl,Xwh],(.tup [(.d Yyz),(.d (.int .i64 0))])⟩
def Xzk:Ent:=⟨16,[Xkl,Xwh,Yyz],(.tup [(.d Yy1),(.d (.int .i64 0))])⟩
def Xzl:Ent:=⟨16,[Xkl,Xwh,.nils],(.tup [(.d Xwh),(.d (.int .i64 0))])⟩
def Xzm:Ent:=⟨16,[Xkl,Y1r,(.list 4 [(.agg [(.str []),(.str []),(.int .i64 0),(.int .i64 3)])])],(.tup [(.d Za4),(.d (.int .i64 260))])⟩
def Xzn:Ent:=⟨18,[Xkl,Y1q],(.tup [(.d (.list 4 [])),(.d (.int .i64 0))])⟩
def Xzo:Ent:=⟨10,[Xkl,Za4],(.tup [(.d .nils),(.d (.int .i64 210))])⟩
def Xzp:Ent:=⟨12,[Y1p,Y1p],(.d (.bool true))⟩
def Xzq:Ent:=⟨12,[Yyz,Yyz],(.d (.bool true))⟩
def Xzr:Ent:=⟨20,[Xwh,Xwh],(.d (.bool true))⟩
def Xzs:Ent:=⟨13,[Xkl,Xwh],(.d (.int .i64 260))⟩
def Xzt:Ent:=⟨13,[Xkl,Yy1],(.d (.int .i64 0))⟩
def Xzu:Ent:=⟨13,[Xkl,Y1q],(.d (.int .i64 0))⟩
def Xzv:Ent:=⟨13,[Xkl,Y1r],(.d (.int .i64 0))⟩
def X77:List Ent:=[]
def X79:List Ent:=Ym3::X77
def X8b:List Ent:=Ym4::X79
def X8d:List Ent:=Ym5::X8b
def X8f:List Ent:=Ym6::X8d
def X8h:List Ent:=Ym7::X8f
def X8j:List Ent:=Ym8::X8h
def X8l:List Ent:=Ym9::X8j
def X8n:List Ent:=Yna::X8l
def X8p:List Ent:=Ynb::X8n
def Xr1:List Ent:=Ync::X8p
def Xr2:List Ent:=Xza::Xr1
def Xr3:List Ent:=Xzb::Xr2
def Xr4:List Ent:=Xzc::Xr3
def Xr5:List Ent:=Xzd::Xr4
def Xr6:List Ent:=Xze::Xr5
def Xr7:List Ent:=Xzf::Xr6
def Xr8:List Ent:=Xzg::Xr7
def Xr9:List Ent:=Xzh::Xr8
def Xsa:List Ent:=Xzi::Xr9
def Xsb:List Ent:=Xzj::Xsa
def Xsc:List Ent:=Xzk::Xsb
def Xsd:List Ent:=Xzl::Xsc
def Xse:List Ent:=Xzm::Xsd
def Xsf:List Ent:=Xzn::Xse
def Xsg:List Ent:=Xzo::Xsf
def Xsh:List Ent:=Xzp::Xsg
def Xsi:List Ent:=Xzq::Xsh
def Xsj:List Ent:=Xzr::Xsi
def Xsk:List Ent:=Xzs::Xsj
def Xsl:List Ent:=Xzt::Xsk
def Xsm:List Ent:=Xzu::Xsl
def Yba:List Ent:=Xzv::Xsm
end Go.Proofs.YtolkimpelpnpbaaGreatDoor
namespace Go.Proofs.YtolkimpelpnpbaaGreatDoor
open Go Go.Ab Go.Py
theorem Yfo (ob:Xb):(fns 3000 W2 (xzE X77) 40).pc Ym3.f (Ym3.xs.map .d) ob=some Ym3.v:=by kernel_rfl
end Go.Proofs.YtolkimpelpnpbaaGreatDoor
namespace Go.Proofs.YtolkimpelpnpbaaGreatDoor
open Go Go.Ab Go.Py
theorem Yfp (ob:Xb):(fns 3000 W2 (xzE X79) 40).pc Ym4.f (Ym4.xs.map .d) ob=some Ym4.v:=by kernel_rfl
end Go.Proofs.YtolkimpelpnpbaaGreatDoor
