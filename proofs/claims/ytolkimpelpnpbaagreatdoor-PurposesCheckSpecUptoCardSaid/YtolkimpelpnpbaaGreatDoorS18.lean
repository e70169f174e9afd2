/- Texts of this claim joined by a program, part 18 of 20; the last is: PurposesCheckSpec, the second form: the row. Condition: none. -/
import Derived.Test.YtolkimpelpnpbaaGreatDoorS8
import Derived.Test.YtolkimpelpnpbaaGreatDoorS16
import Derived.Test.YtolkimpelpnpbaaGreatDoorS17
import Derived.Test.YtolkimpelpnpbaaGreatDoorCards
import Derived.Test.YtolkimpelpnpbaaGreatDoorTie
import Derived.SevenTiedAt
import Derived.Deep.DeepHandedRow
set_option maxRecDepth 100000
set_option linter.unusedSimpArgs false
set_option linter.unusedVariables false
set_option linter.unusedSectionVars false
set_option linter.defProp false
namespace Go.Proofs.YtolkimpelpnpbaaGreatDoor
open Go Go.Ab Go.Lx Go.Sx Go.ChangeShapes Go.WideShapes Go.RowKit Go.ChangeMaps
theorem W0 (H:Type)(enc:TypeId×Value->H)(W:World)(base:Nat)(args:Array Value)(ds gs:List (DataW H))(before:List MemPlace)
  (hval0:∀(j:Nat) t v,Tryz.f3.params[j]? = some t->args[j]? = some v->Value.okWide Tryz.prog W .any base t v)
  (hW:DataW.Whole enc Tryz.prog Tryz.f3.params.toList Rows.purposesCheckSpecSpec.vars false W args.toList ds gs before) (hk:Rows.uptoSmall H (ds++gs)=true) (hL:laidMetH Tryz.prog laidL W) :
  Calls Tryz.prog 3 args W fun e W'=>∃v,e=.returned v/\Rows.purposesCheckSpecSpec.post enc Tryz.prog Tryz.f3 false true false false W args v W':=by
 have hval:∀(j:Nat) t v,Tryz.f3.params[j]? = some t->args[j]? = some v->Value.okWide Tryz.prog W .any base t v:=hval0
 have hW':=hW
 obtain⟨p,q,hA0,hV0,rfl,hfz,hnd⟩:=hW
 have hA:DataW.TrodAll enc Tryz.prog W 0 (fun _=>true) true Tryz.f3.params.toList args.toList ds p:=hA0
 have hV:DataW.TrodVars enc Tryz.prog W (fun _=>true) [] gs q:=hV0
 rw[Tryz.params3]at hA hval
 obtain⟨v0,v1,d0,d1,p0,p1,rfl,rfl,rfl,h0,h1⟩:=trodAll_two hA
 obtain⟨cs0,rfl⟩:∃cs,v0=.agg cs:=by
  have hv:=hval 0 32 v0 rfl rfl
  unfold Value.okWide at hv
  rw[Tryz.underlying32]at hv
  obtain⟨cs,h,_⟩:=hv
  exact⟨cs,h⟩
 obtain⟨cs1,rfl⟩:∃cs,v1=.agg cs:=by
  have hv:=hval 1 42 v1 rfl rfl
  unfold Value.okWide at hv
  rw[Tryz.underlying42]at hv
  obtain⟨cs,h,_⟩:=hv
  exact⟨cs,h⟩
 obtain⟨x0,f0,b0,r0⟩:=Xjn (Xz1 (H:=H)) (ow:=own (envOf W)) (not_own W) X43 Xzo (t:=32) (by decide) h0
 obtain⟨y0,rfl,hy0,ho0⟩:=X9l f0
 obtain⟨x1,f1,b1,r1⟩:=Xjn (Xz1 (H:=H)) (ow:=own (envOf W)) (not_own W) X43 Xzo (t:=42) (by decide) h1
 obtain⟨q1,rfl,hq1⟩:=Yu7 f1
 have hnm1:q1.form.nm<=1000000:=by
  have h1:=Xz2 hk (d:=d1) (by simp)
  have h2:=Yrb q1
  omega
 have hlt:=hA.lt
 obtain⟨rfl,rfl⟩:gs=[]/\q=[]:=by
  cases gs with
  | nil=>exact⟨rfl,hV⟩
  | cons g r=>exact absurd hV (by intro h; cases h)
 have e1:Rows.purposesCheckSpecSpec.fn H ([d0,d1]++[])={ results:=[.lit (.bool true)],args:=[d0,d1] }:=by simp[Rows.purposesCheckSpecSpec]
 refine (law_run (f:=3) (vs:=[.d y0.enc,.d q1.enc]) (args:=[.agg cs0,.agg cs1]) hL (fun hP hI hL=>Ql hP (Yf7 hP hI hL) hL.keys hy0 ho0 hq1 hnm1 rfl) ?_).mono fun e W' ⟨he,hb⟩=>?_
 ·exact⟨_,_,rfl,.inr (.inl ⟨rfl,cs0.toList,by simp,r0⟩),⟨_,_,rfl,.inr (.inl ⟨rfl,cs1.toList,by simp,r1⟩),rfl⟩⟩
 ·subst he
  refine⟨_,rfl,_,_,_,[],p0++p1,[],hW',?_,?_,?_,hb.frame _,fun h=>by cases h⟩
  ·rw[e1]; exact trodAll_mk1 (shut_bool Tryz.underlying4 true)
  ·rw[e1]
   exact trodAll_mk2 (Below.trod laid_out (by kernel_rfl) (of_decide_eq_true (by kernel_rfl)) h0 hb (fun x hx=>hlt x (by simp[hx]))) (Below.trod laid_out (by kernel_rfl) (of_decide_eq_true (by kernel_rfl)) h1 hb (fun x hx=>hlt x (by simp[hx])))
  ·rw[e1]; rfl
theorem Vx (os:Os){H:Type}(enc:TypeId×Value->H):∃ds places,DataW.whole enc Tryz.prog ((laidWorld os).forCall (fun _ _=>0) ⟨#[],#[.agg #[.slice none 0 0,.slice none 0 0,.slice none 0 0,.slice none 0 0,.slice none 0 0,.slice none 0 0,.slice none 0 0],.agg #[.string ⟨#[]⟩,.int .i64 0,.slice none 0 0,.int .i64 0,.int .i64 0,.slice none 0 0,.int .i64 0,.string ⟨#[]⟩,.string ⟨#[]⟩,.int .i64 0,.int .i64 0,.int .i64 0,.string ⟨#[]⟩,.string ⟨#[]⟩,.int .i64 0,.int .i64 0,.int .i64 0]],[]⟩).memory Tryz.f3.params.toList Rows.purposesCheckSpecSpec.vars false #[.agg #[.slice none 0 0,.slice none 0 0,.slice none 0 0,.slice none 0 0,.slice none 0 0,.slice none 0 0,.slice none 0 0],.agg #[.string ⟨#[]⟩,.int .i64 0,.slice none 0 0,.int .i64 0,.int .i64 0,.slice none 0 0,.int .i64 0,.string ⟨#[]⟩,.string ⟨#[]⟩,.int .i64 0,.int .i64 0,.int .i64 0,.string ⟨#[]⟩,.string ⟨#[]⟩,.int .i64 0,.int .i64 0,.int .i64 0]].toList 8=some (ds,[],places)/\ds=[.agg [.agg [.nil,.nil,.nil,.nil,.nil,.nil],.nil],.agg [.lit (.string []),.lit (.int .i64 0),.nil,.agg [.lit (.int .i64 0),.lit (.int .i64 0),.nil,.agg [.lit (.int .i64 0),.agg [.lit (.string []),.lit (.string []),.lit (.int .i64 0),.lit (.int .i64 0),.lit (.int .i64 0)],.agg [.lit (.string []),.lit (.string []),.lit (.int .i64 0),.lit (.int .i64 0),.lit (.int .i64 0)]]]]]:=
 ⟨[.agg [.agg [.nil,.nil,.nil,.nil,.nil,.nil],.nil],.agg [.lit (.string []),.lit (.int .i64 0),.nil,.agg [.lit (.int .i64 0),.lit (.int .i64 0),.nil,.agg [.lit (.int .i64 0),.agg [.lit (.string []),.lit (.string []),.lit (.int .i64 0),.lit (.int .i64 0),.lit (.int .i64 0)],.agg [.lit (.string []),.lit (.string []),.lit (.int .i64 0),.lit (.int .i64 0),.lit (.int .i64 0)]]]]],[],by kernel_rfl,rfl⟩
theorem Vk (os:Os)(started:os.Started)(H:Type)(enc:TypeId×Value->H)(F:Stop.Interp) :
  ReturnsInHanded {} Tryz.checked os 3 .any ((Rows.OpenSpec.upto Rows.purposesCheckSpecSpec).preRow enc Tryz.prog Tryz.f3 Rows.purposesCheckSpecUptoRow.domain false laidL) (((Rows.OpenSpec.upto Rows.purposesCheckSpecSpec).at F).post enc Tryz.prog Tryz.f3 false true false false):=by
 obtain⟨ds,places,hx,hds⟩:=Vx os enc
 refine returnsInHanded_of_row (C:=Tryz.checked) (s:=Rows.OpenSpec.upto Rows.purposesCheckSpecSpec) own_knob started (by kernel_rfl) Tryz.func3
  (witness_row_at (enc:=enc) (C:=Tryz.checked) false (laidWorld os) #[.agg #[.slice none 0 0,.slice none 0 0,.slice none 0 0,.slice none 0 0,.slice none 0 0,.slice none 0 0,.slice none 0 0],.agg #[.string ⟨#[]⟩,.int .i64 0,.slice none 0 0,.int .i64 0,.int .i64 0,.slice none 0 0,.int .i64 0,.string ⟨#[]⟩,.string ⟨#[]⟩,.int .i64 0,.int .i64 0,.int .i64 0,.string ⟨#[]⟩,.string ⟨#[]⟩,.int .i64 0,.int .i64 0,.int .i64 0]] rfl (by kernel_rfl) (by kernel_rfl) (by kernel_rfl)
   (OpenSpec.preRow_of_cond 8 hx (by subst hds; kernel_rfl) (fun k hk=>by cases hk; subst hds; kernel_rfl) (by subst hds; kernel_rfl) (laid_met os _))) ?_
 intro W base args ds gs before hval hW _ hcond _ hL _ _
 exact W0 H enc W base args ds gs before hval hW (hcond _ rfl) hL
theorem purposesCheckSpec_row:Rows.PurposesCheckSpecUptoSaid:=
 OpenClaim.holds_of_cond 3 Tryz.f3 rfl rfl rfl rfl rfl rfl rfl ⟨rfl,rfl,rfl,rfl,rfl⟩ rfl rfl rfl rfl rfl (by kernel_rfl) Tryz.func3 Vw
  (of_decide_eq_true (by kernel_rfl)) (by unfold Func.isWrapper; rw[if_neg (of_decide_eq_false (by kernel_rfl))]; exact⟨rfl,rfl⟩)
  (fun os started H enc _ F=>by rw[OpenClaim.pre_eq_preRow]; exact Vk os started H enc F)
end Go.Proofs.YtolkimpelpnpbaaGreatDoor
