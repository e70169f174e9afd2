/- SchemasBack, the second form: the row. Condition: none. -/
import Derived.Test.YtfedhegpmfkfoaaGreatDoorH16
set_option maxRecDepth 100000
set_option linter.unusedSimpArgs false
set_option linter.unusedVariables false
namespace Go.Proofs.YtfedhegpmfkfoaaGreatDoor
open Go Go.Ab Go.ChangeShapes Go.WideShapes Go.RowKit Go.ChangeMaps
theorem Zov (H:Type)(enc:TypeId×Value->H)(W:World)(base:Nat)(args:Array Value)(ds gs:List (DataW H))(before:List MemPlace)
 (hval0:∀(j:Nat) t v,Tryz.f4.params[j]? = some t->args[j]? = some v->Value.okWide Tryz.prog W .any base t v)
 (hW:DataW.Whole enc Tryz.prog Tryz.f4.params.toList Rows.schemasBackSpec.vars false W args.toList ds gs before) (hk:Rows.uptoSmall H (ds++gs)=true) (hL:laidMetH Tryz.prog Es W):
 Calls Tryz.prog 4 args W λe W'=>∃v,e=.returned v/\Rows.schemasBackSpec.post enc Tryz.prog Tryz.f4 false true false false W args v W':=by
 have hval:∀(j:Nat) t v,Tryz.f4.params[j]? = some t->args[j]? = some v->Value.okWide Tryz.prog W .any base t v:=hval0;have hW':=hW;obtain⟨p,q,hA0,hV0,rfl,hfz,hnd⟩:=hW;have hA:DataW.TrodAll enc Tryz.prog W 0 (λ_=>true) true Tryz.f4.params.toList args.toList ds p:=hA0;have hV:DataW.TrodVars enc Tryz.prog W (λ_=>true) [] gs q:=hV0;rw[Tryz.params4]at hA hval;obtain⟨v0,v1,v2,d0,d1,d2,p0,p1,p2,rfl,rfl,rfl,h0,h1,h2⟩:=trodAll_three hA;obtain⟨cs0,rfl⟩:∃cs,v0=.agg cs:=by
  have hv:=hval 0 34 v0 rfl rfl;unfold Value.okWide at hv;rw[Tryz.underlying34]at hv;obtain⟨cs,h,_⟩:=hv;exact⟨cs,h⟩
 obtain⟨n1,rfl,rfl,rfl,hw1⟩:=open_int Tryz.underlying5 (hval 1 5 v1 rfl rfl) h1;have hn1:0<=n1/\n1<=255:=by
  have:=hw1;simp[Lit.wf,IntKind.min,IntKind.max,IntKind.bits,IntKind.signed]at this;omega
 obtain⟨cs2,rfl⟩:∃cs,v2=.agg cs:=by
  have hv:=hval 2 57 v2 rfl rfl;unfold Value.okWide at hv;rw[Tryz.underlying57]at hv;obtain⟨cs,h,_⟩:=hv;exact⟨cs,h⟩
 obtain⟨x0,f0,b0,r0⟩:=X6w (Yp6 (H:=H)) (ow:=B2 (FY W)) (H4 W) iM Zrs (t:=34) (by decide) h0;obtain⟨y0,rfl,hy0,ho0⟩:=Zt4 f0;have hnm0:=Xxy (y:=y0.Gv) (FA (eC (by simp[QI.enc])) (FA b0 (X8o hk (d:=d0) (by simp))));obtain⟨x2,f2,b2,r2⟩:=X6w (Yp6 (H:=H)) (ow:=B2 (FY W)) (H4 W) iM Zrs (t:=57) (by decide) h2;obtain⟨y2,rfl,hc2,hd2⟩:=Zru f2;have hlt:=hA.lt;obtain⟨rfl,rfl⟩:gs=[]/\q=[]:=by
  cases gs with
  |nil=>exact⟨rfl,hV⟩
  |cons g r=>exact absurd hV (by intro h;cases h)
 have e1:Rows.schemasBackSpec.fn H ([d0,.lit (.int .u8 n1),d2]++[])={results:=[.lit (.bool true)],args:=[d0,.lit (.int .u8 n1),d2] }:=by simp[Rows.schemasBackSpec]
 refine(L8 (f:=4) (vs:=[.d y0.enc,.d (.int .u8 n1),.d y2.enc]) (args:=[.agg cs0,.int .u8 n1,.agg cs2]) hL (λhP hI hG hL hKs=>Zql hP (λob K h=>Ysl hP hI hG hL hKs h) hL hy0 ho0 hnm0 hn1 hc2 hd2 rfl) ?_).mono λe W' ⟨he,hb⟩=>?_
 ·exact⟨_,_,rfl,.inr (.inl ⟨rfl,cs0.toList,by simp,r0⟩),⟨_,_,rfl,X1.2 rfl,⟨_,_,rfl,.inr (.inl ⟨rfl,cs2.toList,by simp,r2⟩),rfl⟩⟩⟩
 ·subst he;refine⟨_,rfl,_,_,_,[],p0++([]++p2),[],hW',?_,?_,?_,hb.frame _,λh=>by cases h⟩
  ·rw[e1];exact trodAll_mk1 (shut_bool Tryz.underlying4 true)
  ·rw[e1];exact trodAll_mk3 (Below.trod KX (by kernel_rfl) (Gk (by kernel_rfl)) h0 hb (λx hx=>hlt x (by simp[hx]))) (shut_int Tryz.underlying5 hw1) (Below.trod KX (by kernel_rfl) (Gk (by kernel_rfl)) h2 hb (λx hx=>hlt x (by simp[hx])))
  ·rw[e1];rfl
theorem aL (os:Os){H:Type}(enc:TypeId×Value->H):∃ds places,DataW.whole enc Tryz.prog ((EH os).forCall (λ_ _=>0) ⟨#[],#[.agg #[.slice none 0 0,.slice none 0 0,.slice none 0 0,.slice none 0 0,.slice none 0 0,.slice none 0 0,.slice none 0 0],.int .u8 0,.agg #[.int .i64 0,.slice none 0 0,.slice none 0 0]],[]⟩).memory Tryz.f4.params.toList Rows.schemasBackSpec.vars false #[.agg #[.slice none 0 0,.slice none 0 0,.slice none 0 0,.slice none 0 0,.slice none 0 0,.slice none 0 0,.slice none 0 0],.int .u8 0,.agg #[.int .i64 0,.slice none 0 0,.slice none 0 0]].toList 8=some (ds,[],places)/\ds=[.agg [.agg [.nil,.nil,.nil,.nil,.nil,.nil],.nil],.lit (.int .u8 0),.agg [.lit (.int .i64 0),.nil,.nil]]:=
 ⟨[.agg [.agg [.nil,.nil,.nil,.nil,.nil,.nil],.nil],.lit (.int .u8 0),.agg [.lit (.int .i64 0),.nil,.nil]],[],by kernel_rfl,rfl⟩
theorem Zo2 (os:Os)(started:os.Started)(H:Type)(enc:TypeId×Value->H)(F:Stop.Interp):
 ReturnsInHanded {} Tryz.checked os 4 .any ((Rows.OpenSpec.upto Rows.schemasBackSpec).preRow enc Tryz.prog Tryz.f4 Rows.schemasBackUptoRow.domain false Es) (((Rows.OpenSpec.upto Rows.schemasBackSpec).at F).post enc Tryz.prog Tryz.f4 false true false false):=by
 obtain⟨ds,places,hx,hds⟩:=aL os enc;refine returnsInHanded_of_row (C:=Tryz.checked) (s:=Rows.OpenSpec.upto Rows.schemasBackSpec) Kc started (by kernel_rfl) Tryz.func4
  (witness_row_at (enc:=enc) (C:=Tryz.checked) false (EH os) #[.agg #[.slice none 0 0,.slice none 0 0,.slice none 0 0,.slice none 0 0,.slice none 0 0,.slice none 0 0,.slice none 0 0],.int .u8 0,.agg #[.int .i64 0,.slice none 0 0,.slice none 0 0]] rfl (by kernel_rfl) (by kernel_rfl) (by kernel_rfl)
   (OpenSpec.preRow_of_cond 8 hx (by subst hds;kernel_rfl) (λk hk=>by cases hk;subst hds;kernel_rfl) (by subst hds;kernel_rfl) (KW os _))) ?_
 intro W base args ds gs before hval hW _ hcond _ hL _ _;exact Zov H enc W base args ds gs before hval hW (hcond _ rfl) hL
theorem OJ:Rows.SchemasBackUptoSaid:=
 OpenClaim.holds_of_cond 4 Tryz.f4 rfl rfl rfl rfl rfl rfl rfl ⟨rfl,rfl,rfl,rfl,rfl⟩ rfl rfl rfl rfl rfl (by kernel_rfl) Tryz.func4 Zo5
  (Gk (by kernel_rfl)) (by unfold Func.isWrapper;rw[Af (of_decide_eq_false (by kernel_rfl))];exact⟨rfl,rfl⟩)
  (λos started H enc _ F=>by rw[OpenClaim.pre_eq_preRow];exact Zo2 os started H enc F)
end Go.Proofs.YtfedhegpmfkfoaaGreatDoor
