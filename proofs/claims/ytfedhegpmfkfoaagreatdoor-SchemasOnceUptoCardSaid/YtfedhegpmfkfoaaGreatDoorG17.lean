/- Joined texts, part 17 of 19. SchemasOnce, the second form: the row. Condition: none. -/
import Derived.Test.YtfedhegpmfkfoaaGreatDoorG8
import Derived.Test.YtfedhegpmfkfoaaGreatDoorG15
import Derived.Test.YtfedhegpmfkfoaaGreatDoorG16
import Derived.Test.YtfedhegpmfkfoaaGreatDoorCards
import Derived.Test.YtfedhegpmfkfoaaGreatDoorTie
import Derived.SevenTiedAt
import Derived.Deep.DeepHandedRow
set_option maxRecDepth 100000
set_option linter.unusedSimpArgs false
set_option linter.unusedVariables false
namespace Go.Proofs.YtfedhegpmfkfoaaGreatDoor
open Go Go.Ab Go.ChangeShapes Go.WideShapes Go.RowKit Go.ChangeMaps
theorem Jj (H:Type)(enc:TypeId×Value->H)(W:World)(base:Nat)(args:Array Value)(ds gs:List (DataW H))(before:List MemPlace)
 (hval0:∀(j:Nat) t v,Tryz.f3.params[j]? = some t->args[j]? = some v->Value.okWide Tryz.prog W .any base t v)
 (hW:DataW.Whole enc Tryz.prog Tryz.f3.params.toList Rows.schemasOnceSpec.vars false W args.toList ds gs before) (hk:Rows.uptoSmall H (ds++gs)=true) (hL:laidMetH Tryz.prog Es W):
 Calls Tryz.prog 3 args W λe W'=>∃v,e=.returned v/\Rows.schemasOnceSpec.post enc Tryz.prog Tryz.f3 false true false false W args v W':=by
 have hval:∀(j:Nat) t v,Tryz.f3.params[j]? = some t->args[j]? = some v->Value.okWide Tryz.prog W .any base t v:=hval0;have hW':=hW;obtain⟨p,q,hA0,hV0,rfl,hfz,hnd⟩:=hW;have hA:DataW.TrodAll enc Tryz.prog W 0 (λ_=>true) true Tryz.f3.params.toList args.toList ds p:=hA0;have hV:DataW.TrodVars enc Tryz.prog W (λ_=>true) [] gs q:=hV0;rw[Tryz.params3]at hA hval;obtain⟨v0,d0,rfl,rfl,h0⟩:=trodAll_one hA;obtain⟨cs0,rfl⟩:∃cs,v0=.agg cs:=by
  have hv:=hval 0 29 v0 rfl rfl;unfold Value.okWide at hv;rw[Tryz.underlying29]at hv;obtain⟨cs,h,_⟩:=hv;exact⟨cs,h⟩
 obtain⟨x0,f0,b0,r0⟩:=X6w (Yp6 (H:=H)) (ow:=B2 (FY W)) (H4 W) oP Ypm (t:=29) (by decide) h0;obtain⟨y0,rfl,hy0⟩:=Xxl f0;have hnm0:=Xxy (FA b0 (X8o hk (d:=d0) (by simp)));have hlt:=hA.lt;obtain⟨rfl,rfl⟩:gs=[]/\q=[]:=by
  cases gs with
  |nil=>exact⟨rfl,hV⟩
  |cons g r=>exact absurd hV (by intro h;cases h)
 have e1:Rows.schemasOnceSpec.fn H ([d0]++[])={results:=[.lit (.bool true)],args:=[d0] }:=by simp[Rows.schemasOnceSpec]
 refine(L8 (f:=3) (vs:=[.d y0.enc]) (args:=[.agg cs0]) hL (λhP hI hG hL hKs=>Xk6 hP (λob K h=>Ysl hP hI hG hL hKs h) hL hy0 hnm0 rfl) ?_).mono λe W' ⟨he,hb⟩=>?_
 ·exact⟨_,_,rfl,.inr (.inl ⟨rfl,cs0.toList,by simp,r0⟩),rfl⟩
 ·subst he;refine⟨_,rfl,_,_,_,[],p,[],hW',?_,?_,?_,hb.frame _,λh=>by cases h⟩
  ·rw[e1];exact trodAll_mk1 (shut_bool Tryz.underlying4 true)
  ·rw[e1];exact trodAll_mk1 (Below.trod KX (by kernel_rfl) (Gk (by kernel_rfl)) h0 hb (λx hx=>hlt x (by simp[hx])))
  ·rw[e1];rfl
theorem Xcn (os:Os){H:Type}(enc:TypeId×Value->H):∃ds places,DataW.whole enc Tryz.prog ((EH os).forCall (λ_ _=>0) ⟨#[],#[.agg #[.slice none 0 0,.slice none 0 0,.slice none 0 0,.slice none 0 0,.slice none 0 0,.slice none 0 0]],[]⟩).memory Tryz.f3.params.toList Rows.schemasOnceSpec.vars false #[.agg #[.slice none 0 0,.slice none 0 0,.slice none 0 0,.slice none 0 0,.slice none 0 0,.slice none 0 0]].toList 8=some (ds,[],places)/\ds=[.agg [.nil,.nil,.nil,.nil,.nil,.nil]]:=
 ⟨[.agg [.nil,.nil,.nil,.nil,.nil,.nil]],[],by kernel_rfl,rfl⟩
theorem Xbm (os:Os)(started:os.Started)(H:Type)(enc:TypeId×Value->H)(F:Stop.Interp):
 ReturnsInHanded {} Tryz.checked os 3 .any ((Rows.OpenSpec.upto Rows.schemasOnceSpec).preRow enc Tryz.prog Tryz.f3 Rows.schemasOnceUptoRow.domain false Es) (((Rows.OpenSpec.upto Rows.schemasOnceSpec).at F).post enc Tryz.prog Tryz.f3 false true false false):=by
 obtain⟨ds,places,hx,hds⟩:=Xcn os enc;refine returnsInHanded_of_row (C:=Tryz.checked) (s:=Rows.OpenSpec.upto Rows.schemasOnceSpec) Kc started (by kernel_rfl) Tryz.func3
  (witness_row_at (enc:=enc) (C:=Tryz.checked) false (EH os) #[.agg #[.slice none 0 0,.slice none 0 0,.slice none 0 0,.slice none 0 0,.slice none 0 0,.slice none 0 0]] rfl (by kernel_rfl) (by kernel_rfl) (by kernel_rfl)
   (OpenSpec.preRow_of_cond 8 hx (by subst hds;kernel_rfl) (λk hk=>by cases hk;subst hds;kernel_rfl) (by subst hds;kernel_rfl) (KW os _))) ?_
 intro W base args ds gs before hval hW _ hcond _ hL _ _;exact Jj H enc W base args ds gs before hval hW (hcond _ rfl) hL
theorem EX:Rows.SchemasOnceUptoSaid:=
 OpenClaim.holds_of_cond 3 Tryz.f3 rfl rfl rfl rfl rfl rfl rfl ⟨rfl,rfl,rfl,rfl,rfl⟩ rfl rfl rfl rfl rfl (by kernel_rfl) Tryz.func3 Xcm
  (Gk (by kernel_rfl)) (by unfold Func.isWrapper;rw[Af (of_decide_eq_false (by kernel_rfl))];exact⟨rfl,rfl⟩)
  (λos started H enc _ F=>by rw[OpenClaim.pre_eq_preRow];exact Xbm os started H enc F)
end Go.Proofs.YtfedhegpmfkfoaaGreatDoor
