/- Texts of this claim joined by a program, part 10 of 20; the last is: One call of the purposes' examples, computed by the kernel. No condition. -/
import Derived.Test.YtolkimpelpnpbaaGreatDoorO9
import Derived.KernelRfl
set_option maxRecDepth 100000
set_option linter.unusedSimpArgs false
set_option linter.unusedVariables false
set_option linter.unusedSectionVars false
set_option linter.defProp false
namespace Go.Proofs.YtolkimpelpnpbaaGreatDoor
open Go Go.Ab Go.Py
def eD0:D:=.list 1 [(.str [105])]
def eD1:D:=.list 1 [(.int .i64 0)]
def eD2:D:=.str [115,101,108,102]
def eD3:D:=.str [98,105,114,116,104]
def eD4:D:=.str [117,110,116,105,108]
def eD5:D:=.str [109,111,116,104,101,114]
def eD6:D:=.agg [(.int .i64 0),(.int .i64 1)]
def eD7:D:=.agg [(.int .i64 0),(.int .i64 2)]
def eD8:D:=.agg [(.int .i64 0),(.int .i64 3)]
def eD9:D:=.agg [(.int .i64 0),(.int .i64 0),(.int .i64 0),(.int .i64 0)]
def Y2q:D:=.agg [(.str []),(.str []),(.int .i64 0),(.int .i64 0),(.int .i64 0)]
def Y8z:D:=.agg [(.str []),(.str []),(.int .i64 (-1)),(.int .i64 0),(.int .i64 9)]
def Y80:D:=.agg [(.str []),(.str []),(.int .i64 (-1)),(.int .i64 0),(.int .i64 3)]
def Y81:D:=.agg [(.str [112]),eD3,(.int .i64 0),(.bool false)]
def Y2r:D:=.agg [(.int .i64 3),(.int .i64 0),(.int .i64 4095),(.str []),(.int .i64 0),.nils]
def Y2s:D:=.agg [(.int .i64 2),(.int .i64 0),(.int .i64 1023),(.str []),(.int .i64 0),.nils]
def Y2t:D:=.agg [(.str [112]),(.str [100,97,121]),(.int .i64 0),(.int .i64 1),(.int .i64 0)]
def Y2u:D:=.agg [(.int .i64 3),(.int .i64 0),(.int .i64 4095),(.str []),(.int .i64 (-1)),.nils]
def Y2v:D:=.agg [(.int .i64 2),(.int .i64 0),(.int .i64 1023),(.str []),(.int .i64 (-1)),.nils]
def Y2w:D:=.agg [eD3,(.str [100,97,121]),(.int .i64 0),(.int .i64 0)]
def Yum:D:=.agg [eD3,(.str [100,97,121]),(.int .i64 0),(.int .i64 1)]
def X94:D:=.list 4 [Y81]
def Y82:D:=.agg [(.str [112]),eD4,(.int .i64 0),(.int .i64 3),(.int .i64 0)]
def Y83:D:=.agg [eD3,eD4,(.int .i64 0),(.int .i64 0)]
def Yun:D:=.agg [eD3,eD4,(.int .i64 0),(.int .i64 3)]
def Y84:D:=.list 4 [Y2w]
def Y85:D:=.list 4 [Yum]
def Y86:D:=.agg [(.str [112]),eD5,(.int .i64 0),(.int .i64 2),(.int .i64 0)]
def Y87:D:=.agg [eD3,eD5,(.int .i64 0),(.int .i64 0)]
def Yuo:D:=.agg [eD3,eD5,(.int .i64 0),(.int .i64 2)]
def Y88:D:=.agg [(.str [98,97,114]),Y84,(.int .i64 1)]
def Yf1:D:=.agg [(.str [98,97,114]),Y85,(.int .i64 1)]
def X95:D:=.agg [(.int .i64 0),Y2q,Y2q]
def Y89:D:=.agg [(.str [100,97,121]),Y2s,eD9]
def Y9a:D:=.agg [(.str [100,97,121]),Y2v,eD9]
def Y9b:D:=.agg [(.int .i64 2),Y2t,Y8z]
def Y9c:D:=.agg [eD2,Y2r,eD9]
def Y9d:D:=.agg [eD2,Y2u,eD9]
def Y9e:D:=.agg [eD4,Y2s,eD9]
def Y9f:D:=.agg [eD4,Y2v,eD9]
def Y9g:D:=.agg [eD5,Y2r,eD9]
def Y9h:D:=.agg [eD5,Y2u,eD9]
def Y9i:D:=.agg [(.int .i64 1),Y86,Y80]
def Y9j:D:=.agg [(.int .i64 2),Y2t,Y82]
def Y9k:D:=.agg [(.int .i64 4),(.int .i64 0),.nils,X95]
def Y9l:D:=.agg [(.int .i64 0),(.int .i64 0),.nils,X95]
def Ysf:D:=.list 4 [Yuo,Yun]
def Ysg:D:=.agg [(.int .i64 5),(.int .i64 0),.nils,Y9b]
def Y9m:D:=.list 14 [Ysg]
def Yup:D:=.agg [(.int .i64 5),(.int .i64 0),.nils,Y9i]
def Yuq:D:=.agg [(.int .i64 5),(.int .i64 0),.nils,Y9j]
def Y2x:D:=.agg [(.str []),(.int .i64 0),.nils,Y9l]
def Y9n:D:=.list 14 [Yup]
def Y9o:D:=.list 4 [Y2w,Y83,Y87]
def Y9p:D:=.list 4 [Yum,Yun,Yuo]
def Yur:D:=.list 4 [Yum,Yuo,Yun]
def Yus:D:=.agg [(.str [113]),(.int .i64 0),X94,Y9k]
def Y9q:D:=.agg [(.str [97,110,121]),Y9o,(.int .i64 2)]
def Y9r:D:=.agg [(.str [97,110,121]),Y9p,(.int .i64 2)]
def Yut:D:=.agg [(.str [113]),(.int .i64 1),X94,Yuq]
def Y9s:D:=.agg [(.int .i64 3),(.int .i64 1),Y9m,X95]
def Y9t:D:=.agg [(.int .i64 3),(.int .i64 1),Y9n,X95]
def Y9u:D:=.list 14 [Ysg,Yup]
def Y9v:D:=.list 14 [Yuq,Ysg]
def Y9w:D:=.list 3 [Y88,Y9q]
def Y9x:D:=.list 3 [Yf1,Y9r]
def Ysh:D:=.agg [(.str [113]),(.int .i64 0),X94,Y9s]
def Y2y:D:=.agg [(.str [113]),(.int .i64 0),X94,Y9t]
def Y9y:D:=.agg [(.int .i64 3),(.int .i64 1),Y9u,X95]
def Y9z:D:=.agg [(.int .i64 3),(.int .i64 1),Y9v,X95]
def Y90:D:=.list 14 [Yuq,Ysg,Yup]
def Y91:D:=.list 11 [Y9c,Y89,Y9g,Y9e]
def Y92:D:=.list 11 [Y9d,Y9a,Y9h,Y9f]
def Y2z:D:=.agg [(.str [113]),(.int .i64 0),X94,Y9y]
def Y20:D:=.agg [(.str [113]),(.int .i64 0),X94,Y9z]
def Y93:D:=.agg [eD3,(.str [105]),(.int .i64 0),(.int .i64 1),Y91,(.list 4 [])]
def Y94:D:=.list 6 [Y93]
def Y95:D:=.agg [eD3,(.str [105]),(.int .i64 0),(.int .i64 1),Y92,(.list 4 [])]
def Y96:D:=.list 6 [Y95]
def Y97:D:=.agg [(.int .i64 3),(.int .i64 2),Y90,X95]
def Xtg:D:=.agg [(.str [113]),(.int .i64 0),X94,Y97]
def Y21:D:=.str [105,115,115,117,101,114,32,105,59,32,115,99,104,101,109,97,32,98,105,114,116,104,32,98,121,32,105,32,118,101,114,115,105,111,110,32,49,32,115,101,108,102,32,48,32,48,32,48,32,48,32,123,32,102,105,101,108,100,32,100,97,121,32,58,32,100,97,116,101,32,48,32,48,32,48,32,48,59,32,102,105,101,108,100,32,109,111,116,104,101,114,32,58,32,112,101,114,115,111,110,32,48,32,48,32,48,32,48,59,32,102,105,101,108,100,32,117,110,116,105,108,32,58,32,100,97,116,101,32,48,32,48,32,48,32,48,59,32,125,32,112,117,114,112,111,115,101,32,98,97,114,32,123,32,109,97,121,32,98,105,114,116,104,46,100,97,121,59,32,109,111,115,116,32,49,59,32,125,32,112,117,114,112,111,115,101,32,97,110,121,32,123,32,109,97,121,32,98,105,114,116,104,46,100,97,121,59,32,109,97,121,32,98,105,114,116,104,46,117,110,116,105,108,59,32,109,97,121,32,98,105,114,116,104,46,109,111,116,104,101,114,59,32,109,111,115,116,32,50,59,32,125]
def Y22:D:=.agg [eD0,(.list 5 []),Y94,(.list 5 []),(.list 5 []),Y9w]
def Yuu:D:=.agg [eD0,(.list 5 []),Y96,(.list 5 []),(.list 5 []),Y9x]
def Xi8:D:=.agg [Yuu,eD1]
def Yhb:Ent:=⟨44,[Y21],(.tup [(.d Y22),(.d (.int .i64 0)),(.d (.int .i64 0))])⟩
def Yhc:Ent:=⟨45,[Y22],(.tup [(.d Yuu),(.d (.int .i64 0))])⟩
def Yhd:Ent:=⟨46,[Yuu],(.tup [(.d Xi8),(.d (.int .i64 0))])⟩
def Yhe:Ent:=⟨23,[Y21],(.tup [(.d Xi8),(.d (.int .i64 0)),(.d (.int .i64 0))])⟩
def Yhf:Ent:=⟨24,[Xi8,(.str [98,97,114,32,123,32,102,114,111,109,32,112,32,98,105,114,116,104,59,32,108,101,97,115,116,32,50,32,123,32,112,46,100,97,121,32,60,32,112,46,117,110,116,105,108,59,32,112,46,100,97,121,32,60,32,57,59,32,112,46,109,111,116,104,101,114,32,61,32,51,59,32,125,59,32,125])],(.tup [(.d Xtg),(.d (.bool true))])⟩
def Yhg:Ent:=⟨24,[Xi8,(.str [98,97,114,32,123,32,102,114,111,109,32,112,32,98,105,114,116,104,59,32,104,97,115,32,112,59,32,125])],(.tup [(.d Yus),(.d (.bool true))])⟩
def Yhh:Ent:=⟨24,[Xi8,(.str [97,110,121,32,123,32,102,114,111,109,32,112,32,98,105,114,116,104,59,32,112,46,100,97,121,32,60,32,112,46,117,110,116,105,108,59,32,125])],(.tup [(.d Yut),(.d (.bool true))])⟩
def Yhi:Ent:=⟨10,[Xi8,Xtg],(.tup [(.d Yur),(.d (.int .i64 0))])⟩
def Yhj:Ent:=⟨21,[Xi8,Xtg],(.d (.int .i64 0))⟩
def Yhk:Ent:=⟨28,[Xtg],(.d (.list 2 [eD6,eD7,eD8]))⟩
def Xvl:Ent:=⟨31,[Yf1,Xtg],(.d (.bool false))⟩
def Xvm:Ent:=⟨28,[Y2y],(.d (.list 2 [eD7]))⟩
def Xvn:Ent:=⟨31,[Yf1,Y2y],(.d (.bool false))⟩
def Xvo:Ent:=⟨28,[Y20],(.d (.list 2 [eD6,eD8]))⟩
def Xvp:Ent:=⟨31,[Yf1,Y20],(.d (.bool false))⟩
def Xvq:Ent:=⟨28,[Y2z],(.d (.list 2 [eD6,eD7]))⟩
def Xvr:Ent:=⟨31,[Yf1,Y2z],(.d (.bool false))⟩
def Xvs:Ent:=⟨28,[Ysh],(.d (.list 2 [eD6]))⟩
def Xvt:Ent:=⟨31,[Yf1,Ysh],(.d (.bool true))⟩
def Xvu:Ent:=⟨18,[Xi8,Xtg],(.tup [(.d Ysf),(.d (.int .i64 0))])⟩
def Xvv:Ent:=⟨16,[Xi8,Xtg,Ysf],(.tup [(.d Ysh),(.d (.int .i64 0))])⟩
def Xvw:Ent:=⟨16,[Xi8,Xtg,.nils],(.tup [(.d Xtg),(.d (.int .i64 0))])⟩
def Xvx:Ent:=⟨16,[Xi8,Yut,(.list 4 [(.agg [(.str []),(.str []),(.int .i64 0),(.int .i64 3)])])],(.tup [(.d Y2x),(.d (.int .i64 260))])⟩
def Xvy:Ent:=⟨18,[Xi8,Yus],(.tup [(.d (.list 4 [])),(.d (.int .i64 0))])⟩
def Xvz:Ent:=⟨10,[Xi8,Y2x],(.tup [(.d .nils),(.d (.int .i64 210))])⟩
def Xv0:Ent:=⟨12,[Yur,Yur],(.d (.bool true))⟩
def Xv1:Ent:=⟨12,[Ysf,Ysf],(.d (.bool true))⟩
def Xv2:Ent:=⟨20,[Xtg,Xtg],(.d (.bool true))⟩
def Xv3:Ent:=⟨13,[Xi8,Xtg],(.d (.int .i64 260))⟩
def Xv4:Ent:=⟨13,[Xi8,Ysh],(.d (.int .i64 0))⟩
def Xv5:Ent:=⟨13,[Xi8,Yus],(.d (.int .i64 0))⟩
def Xv6:Ent:=⟨13,[Xi8,Yut],(.d (.int .i64 0))⟩
def X3h:List Ent:=[]
def X3j:List Ent:=Yhb::X3h
def X3l:List Ent:=Yhc::X3j
def X3n:List Ent:=Yhd::X3l
def X3p:List Ent:=Yhe::X3n
def X3r:List Ent:=Yhf::X3p
def X3t:List Ent:=Yhg::X3r
def X3v:List Ent:=Yhh::X3t
def X3x:List Ent:=Yhi::X3v
def X3z:List Ent:=Yhj::X3x
def Xo9:List Ent:=Yhk::X3z
def Xpa:List Ent:=Xvl::Xo9
def Xpb:List Ent:=Xvm::Xpa
def Xpc:List Ent:=Xvn::Xpb
def Xpd:List Ent:=Xvo::Xpc
def Xpe:List Ent:=Xvp::Xpd
def Xpf:List Ent:=Xvq::Xpe
def Xpg:List Ent:=Xvr::Xpf
def Xph:List Ent:=Xvs::Xpg
def Xpi:List Ent:=Xvt::Xph
def Xpj:List Ent:=Xvu::Xpi
def Xpk:List Ent:=Xvv::Xpj
def Xpl:List Ent:=Xvw::Xpk
def Xpm:List Ent:=Xvx::Xpl
def Xpn:List Ent:=Xvy::Xpm
def Xpo:List Ent:=Xvz::Xpn
def Xpp:List Ent:=Xv0::Xpo
def Xpq:List Ent:=Xv1::Xpp
def Xpr:List Ent:=Xv2::Xpq
def Xps:List Ent:=Xv3::Xpr
def Xpt:List Ent:=Xv4::Xps
def Xpu:List Ent:=Xv5::Xpt
def X6l:List Ent:=Xv6::Xpu
end Go.Proofs.YtolkimpelpnpbaaGreatDoor
namespace Go.Proofs.YtolkimpelpnpbaaGreatDoor
open Go Go.Ab Go.Py
theorem X97 (ob:Xb):(fns 3000 Wp (xzE X3h) 40).pc Yhb.f (Yhb.xs.map .d) ob=some Yhb.v:=by kernel_rfl
end Go.Proofs.YtolkimpelpnpbaaGreatDoor
namespace Go.Proofs.YtolkimpelpnpbaaGreatDoor
open Go Go.Ab Go.Py
theorem X98 (ob:Xb):(fns 3000 Wp (xzE X3j) 40).pc Yhc.f (Yhc.xs.map .d) ob=some Yhc.v:=by kernel_rfl
end Go.Proofs.YtolkimpelpnpbaaGreatDoor
