/- Texts of this claim joined by a program, part 10 of 20; the last is: One call of the purposes' examples, computed by the kernel. No condition. -/
import Derived.Test.YtolkimpelpnpbaaGreatDoorS9
import Derived.KernelRfl
set_option maxRecDepth 100000
set_option linter.unusedSimpArgs false
set_option linter.unusedVariables false
set_option linter.unusedSectionVars false
set_option linter.defProp false
namespace Go.Proofs.YtolkimpelpnpbaaGreatDoor
open Go Go.Ab Go.Py
def eD0:D:=.list 1 [(.str [105])]
def eD1:D:=.list 1 [(.int .i64 0)]
def eD2:D:=.str [115,101,108,102]
def eD3:D:=.str [98,105,114,116,104]
def eD4:D:=.str [117,110,116,105,108]
def eD5:D:=.str [109,111,116,104,101,114]
def eD6:D:=.agg [(.int .i64 0),(.int .i64 1)]
def eD7:D:=.agg [(.int .i64 0),(.int .i64 2)]
def eD8:D:=.agg [(.int .i64 0),(.int .i64 3)]
def eD9:D:=.agg [(.int .i64 0),(.int .i64 0),(.int .i64 0),(.int .i64 0)]
def Y3w:D:=.agg [(.str []),(.str []),(.int .i64 0),(.int .i64 0),(.int .i64 0)]
def Zbc:D:=.agg [(.str []),(.str []),(.int .i64 (-1)),(.int .i64 0),(.int .i64 9)]
def Zbd:D:=.agg [(.str []),(.str []),(.int .i64 (-1)),(.int .i64 0),(.int .i64 3)]
def Zbe:D:=.agg [(.str [112]),eD3,(.int .i64 0),(.bool false)]
def Y3x:D:=.agg [(.int .i64 3),(.int .i64 0),(.int .i64 4095),(.str []),(.int .i64 0),.nils]
def Y3y:D:=.agg [(.int .i64 2),(.int .i64 0),(.int .i64 1023),(.str []),(.int .i64 0),.nils]
def Y3z:D:=.agg [(.str [112]),(.str [100,97,121]),(.int .i64 0),(.int .i64 1),(.int .i64 0)]
def Y30:D:=.agg [(.int .i64 3),(.int .i64 0),(.int .i64 4095),(.str []),(.int .i64 (-1)),.nils]
def Y31:D:=.agg [(.int .i64 2),(.int .i64 0),(.int .i64 1023),(.str []),(.int .i64 (-1)),.nils]
def Y32:D:=.agg [eD3,(.str [100,97,121]),(.int .i64 0),(.int .i64 0)]
def Yux:D:=.agg [eD3,(.str [100,97,121]),(.int .i64 0),(.int .i64 1)]
def X85:D:=.list 4 [Zbe]
def Zbf:D:=.agg [(.str [112]),eD4,(.int .i64 0),(.int .i64 3),(.int .i64 0)]
def Zbg:D:=.agg [eD3,eD4,(.int .i64 0),(.int .i64 0)]
def Yuy:D:=.agg [eD3,eD4,(.int .i64 0),(.int .i64 3)]
def Zbh:D:=.list 4 [Y32]
def Zbi:D:=.list 4 [Yux]
def Zbj:D:=.agg [(.str [112]),eD5,(.int .i64 0),(.int .i64 2),(.int .i64 0)]
def Zbk:D:=.agg [eD3,eD5,(.int .i64 0),(.int .i64 0)]
def Yuz:D:=.agg [eD3,eD5,(.int .i64 0),(.int .i64 2)]
def Zbl:D:=.agg [(.str [98,97,114]),Zbh,(.int .i64 1)]
def Ye3:D:=.agg [(.str [98,97,114]),Zbi,(.int .i64 1)]
def X86:D:=.agg [(.int .i64 0),Y3w,Y3w]
def Zbm:D:=.agg [(.str [100,97,121]),Y3y,eD9]
def Zbn:D:=.agg [(.str [100,97,121]),Y31,eD9]
def Zbo:D:=.agg [(.int .i64 2),Y3z,Zbc]
def Zbp:D:=.agg [eD2,Y3x,eD9]
def Zbq:D:=.agg [eD2,Y30,eD9]
def Zbr:D:=.agg [eD4,Y3y,eD9]
def Zbs:D:=.agg [eD4,Y31,eD9]
def Zbt:D:=.agg [eD5,Y3x,eD9]
def Zbu:D:=.agg [eD5,Y30,eD9]
def Zbv:D:=.agg [(.int .i64 1),Zbj,Zbd]
def Zbw:D:=.agg [(.int .i64 2),Y3z,Zbf]
def Zbx:D:=.agg [(.int .i64 4),(.int .i64 0),.nils,X86]
def Zby:D:=.agg [(.int .i64 0),(.int .i64 0),.nils,X86]
def Ysi:D:=.list 4 [Yuz,Yuy]
def Ysj:D:=.agg [(.int .i64 5),(.int .i64 0),.nils,Zbo]
def Zbz:D:=.list 14 [Ysj]
def Yu0:D:=.agg [(.int .i64 5),(.int .i64 0),.nils,Zbv]
def Yu1:D:=.agg [(.int .i64 5),(.int .i64 0),.nils,Zbw]
def Y33:D:=.agg [(.str []),(.int .i64 0),.nils,Zby]
def Zb0:D:=.list 14 [Yu0]
def Zb1:D:=.list 4 [Y32,Zbg,Zbk]
def Zb2:D:=.list 4 [Yux,Yuy,Yuz]
def Yu2:D:=.list 4 [Yux,Yuz,Yuy]
def Yu3:D:=.agg [(.str [113]),(.int .i64 0),X85,Zbx]
def Zb3:D:=.agg [(.str [97,110,121]),Zb1,(.int .i64 2)]
def Zb4:D:=.agg [(.str [97,110,121]),Zb2,(.int .i64 2)]
def Yu4:D:=.agg [(.str [113]),(.int .i64 1),X85,Yu1]
def Zb5:D:=.agg [(.int .i64 3),(.int .i64 1),Zbz,X86]
def Zb6:D:=.agg [(.int .i64 3),(.int .i64 1),Zb0,X86]
def Zb7:D:=.list 14 [Ysj,Yu0]
def Zb8:D:=.list 14 [Yu1,Ysj]
def Zb9:D:=.list 3 [Zbl,Zb3]
def Zca:D:=.list 3 [Ye3,Zb4]
def Ysk:D:=.agg [(.str [113]),(.int .i64 0),X85,Zb5]
def Y34:D:=.agg [(.str [113]),(.int .i64 0),X85,Zb6]
def Zcb:D:=.agg [(.int .i64 3),(.int .i64 1),Zb7,X86]
def Zcc:D:=.agg [(.int .i64 3),(.int .i64 1),Zb8,X86]
def Zcd:D:=.list 14 [Yu1,Ysj,Yu0]
def Zce:D:=.list 11 [Zbp,Zbm,Zbt,Zbr]
def Zcf:D:=.list 11 [Zbq,Zbn,Zbu,Zbs]
def Y35:D:=.agg [(.str [113]),(.int .i64 0),X85,Zcb]
def Y36:D:=.agg [(.str [113]),(.int .i64 0),X85,Zcc]
def Zcg:D:=.agg [eD3,(.str [105]),(.int .i64 0),(.int .i64 1),Zce,(.list 4 [])]
def Zch:D:=.list 6 [Zcg]
def Zci:D:=.agg [eD3,(.str [105]),(.int .i64 0),(.int .i64 1),Zcf,(.list 4 [])]
def Zcj:D:=.list 6 [Zci]
def Zck:D:=.agg [(.int .i64 3),(.int .i64 2),Zcd,X86]
def Xr8:D:=.agg [(.str [113]),(.int .i64 0),X85,Zck]
def Y37:D:=.str [105,115,115,117,101,114,32,105,59,32,115,99,104,101,109,97,32,98,105,114,116,104,32,98,121,32,105,32,118,101,114,115,105,111,110,32,49,32,115,101,108,102,32,48,32,48,32,48,32,48,32,123,32,102,105,101,108,100,32,100,97,121,32,58,32,100,97,116,101,32,48,32,48,32,48,32,48,59,32,102,105,101,108,100,32,109,111,116,104,101,114,32,58,32,112,101,114,115,111,110,32,48,32,48,32,48,32,48,59,32,102,105,101,108,100,32,117,110,116,105,108,32,58,32,100,97,116,101,32,48,32,48,32,48,32,48,59,32,125,32,112,117,114,112,111,115,101,32,98,97,114,32,123,32,109,97,121,32,98,105,114,116,104,46,100,97,121,59,32,109,111,115,116,32,49,59,32,125,32,112,117,114,112,111,115,101,32,97,110,121,32,123,32,109,97,121,32,98,105,114,116,104,46,100,97,121,59,32,109,97,121,32,98,105,114,116,104,46,117,110,116,105,108,59,32,109,97,121,32,98,105,114,116,104,46,109,111,116,104,101,114,59,32,109,111,115,116,32,50,59,32,125]
def Y38:D:=.agg [eD0,(.list 5 []),Zch,(.list 5 []),(.list 5 []),Zb9]
def Yu5:D:=.agg [eD0,(.list 5 []),Zcj,(.list 5 []),(.list 5 []),Zca]
def Xh6:D:=.agg [Yu5,eD1]
def Ygh:Ent:=⟨44,[Y37],(.tup [(.d Y38),(.d (.int .i64 0)),(.d (.int .i64 0))])⟩
def Ygi:Ent:=⟨45,[Y38],(.tup [(.d Yu5),(.d (.int .i64 0))])⟩
def Ygj:Ent:=⟨46,[Yu5],(.tup [(.d Xh6),(.d (.int .i64 0))])⟩
def Ygk:Ent:=⟨23,[Y37],(.tup [(.d Xh6),(.d (.int .i64 0)),(.d (.int .i64 0))])⟩
def Ygl:Ent:=⟨24,[Xh6,(.str [98,97,114,32,123,32,102,114,111,109,32,112,32,98,105,114,116,104,59,32,108,101,97,115,116,32,50,32,123,32,112,46,100,97,121,32,60,32,112,46,117,110,116,105,108,59,32,112,46,100,97,121,32,60,32,57,59,32,112,46,109,111,116,104,101,114,32,61,32,51,59,32,125,59,32,125])],(.tup [(.d Xr8),(.d (.bool true))])⟩
def Ygm:Ent:=⟨24,[Xh6,(.str [98,97,114,32,123,32,102,114,111,109,32,112,32,98,105,114,116,104,59,32,104,97,115,32,112,59,32,125])],(.tup [(.d Yu3),(.d (.bool true))])⟩
def Ygn:Ent:=⟨24,[Xh6,(.str [97,110,121,32,123,32,102,114,111,109,32,112,32,98,105,114,116,104,59,32,112,46,100,97,121,32,60,32,112,46,117,110,116,105,108,59,32,125])],(.tup [(.d Yu4),(.d (.bool true))])⟩
def Ygo:Ent:=⟨10,[Xh6,Xr8],(.tup [(.d Yu2),(.d (.int .i64 0))])⟩
def Ygp:Ent:=⟨21,[Xh6,Xr8],(.d (.int .i64 0))⟩
def Ygq:Ent:=⟨28,[Xr8],(.d (.list 2 [eD6,eD7,eD8]))⟩
def Xui:Ent:=⟨31,[Ye3,Xr8],(.d (.bool false))⟩
def Xuj:Ent:=⟨28,[Y34],(.d (.list 2 [eD7]))⟩
def Xuk:Ent:=⟨31,[Ye3,Y34],(.d (.bool false))⟩
def Xul:Ent:=⟨28,[Y36],(.d (.list 2 [eD6,eD8]))⟩
def Xum:Ent:=⟨31,[Ye3,Y36],(.d (.bool false))⟩
def Xun:Ent:=⟨28,[Y35],(.d (.list 2 [eD6,eD7]))⟩
def Xuo:Ent:=⟨31,[Ye3,Y35],(.d (.bool false))⟩
def Xup:Ent:=⟨28,[Ysk],(.d (.list 2 [eD6]))⟩
def Xuq:Ent:=⟨31,[Ye3,Ysk],(.d (.bool true))⟩
def Xur:Ent:=⟨18,[Xh6,Xr8],(.tup [(.d Ysi),(.d (.int .i64 0))])⟩
def Xus:Ent:=⟨16,[Xh6,Xr8,Ysi],(.tup [(.d Ysk),(.d (.int .i64 0))])⟩
def Xut:Ent:=⟨16,[Xh6,Xr8,.nils],(.tup [(.d Xr8),(.d (.int .i64 0))])⟩
def Xuu:Ent:=⟨16,[Xh6,Yu4,(.list 4 [(.agg [(.str []),(.str []),(.int .i64 0),(.int .i64 3)])])],(.tup [(.d Y33),(.d (.int .i64 260))])⟩
def Xuv:Ent:=⟨18,[Xh6,Yu3],(.tup [(.d (.list 4 [])),(.d (.int .i64 0))])⟩
def Xuw:Ent:=⟨10,[Xh6,Y33],(.tup [(.d .nils),(.d (.int .i64 210))])⟩
def Xux:Ent:=⟨12,[Yu2,Yu2],(.d (.bool true))⟩
def Xuy:Ent:=⟨12,[Ysi,Ysi],(.d (.bool true))⟩
def Xuz:Ent:=⟨20,[Xr8,Xr8],(.d (.bool true))⟩
def Xu0:Ent:=⟨13,[Xh6,Xr8],(.d (.int .i64 260))⟩
def Xu1:Ent:=⟨13,[Xh6,Ysk],(.d (.int .i64 0))⟩
def Xu2:Ent:=⟨13,[Xh6,Yu3],(.d (.int .i64 0))⟩
def Xu3:Ent:=⟨13,[Xh6,Yu4],(.d (.int .i64 0))⟩
def X2v:List Ent:=[]
def X2x:List Ent:=Ygh::X2v
def X2z:List Ent:=Ygi::X2x
def X21:List Ent:=Ygj::X2z
def X23:List Ent:=Ygk::X21
def X25:List Ent:=Ygl::X23
def X27:List Ent:=Ygm::X25
def X29:List Ent:=Ygn::X27
def X3b:List Ent:=Ygo::X29
def X3d:List Ent:=Ygp::X3b
def Xob:List Ent:=Ygq::X3d
def Xoc:List Ent:=Xui::Xob
def Xod:List Ent:=Xuj::Xoc
def Xoe:List Ent:=Xuk::Xod
def Xof:List Ent:=Xul::Xoe
def Xog:List Ent:=Xum::Xof
def Xoh:List Ent:=Xun::Xog
def Xoi:List Ent:=Xuo::Xoh
def Xoj:List Ent:=Xup::Xoi
def Xok:List Ent:=Xuq::Xoj
def Xol:List Ent:=Xur::Xok
def Xom:List Ent:=Xus::Xol
def Xon:List Ent:=Xut::Xom
def Xoo:List Ent:=Xuu::Xon
def Xop:List Ent:=Xuv::Xoo
def Xoq:List Ent:=Xuw::Xop
def Xor:List Ent:=Xux::Xoq
def Xos:List Ent:=Xuy::Xor
def Xot:List Ent:=Xuz::Xos
def Xou:List Ent:=Xu0::Xot
def Xov:List Ent:=Xu1::Xou
def Xow:List Ent:=Xu2::Xov
def X5r:List Ent:=Xu3::Xow
end Go.Proofs.YtolkimpelpnpbaaGreatDoor
namespace Go.Proofs.YtolkimpelpnpbaaGreatDoor
open Go Go.Ab Go.Py
theorem X88 (ob:Xa):(fns 3000 Wl (xzE X2v) 40).pc Ygh.f (Ygh.xs.map .d) ob=some Ygh.v:=by kernel_rfl
end Go.Proofs.YtolkimpelpnpbaaGreatDoor
namespace Go.Proofs.YtolkimpelpnpbaaGreatDoor
open Go Go.Ab Go.Py
theorem X89 (ob:Xa):(fns 3000 Wl (xzE X2x) 40).pc Ygi.f (Ygi.xs.map .d) ob=some Ygi.v:=by kernel_rfl
end Go.Proofs.YtolkimpelpnpbaaGreatDoor
