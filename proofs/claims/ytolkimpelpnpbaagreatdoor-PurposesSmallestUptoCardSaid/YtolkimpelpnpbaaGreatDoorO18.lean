/- Texts of this claim joined by a program, part 18 of 20; the last is: PurposesSmallest, the second form: the row. Condition: none. -/
import Derived.Test.YtolkimpelpnpbaaGreatDoorO7
import Derived.Test.YtolkimpelpnpbaaGreatDoorO16
import Derived.Test.YtolkimpelpnpbaaGreatDoorO17
import Derived.Test.YtolkimpelpnpbaaGreatDoorCards
import Derived.Test.YtolkimpelpnpbaaGreatDoorTie
import Derived.SevenTiedAt
import Derived.Deep.DeepHandedRow
set_option maxRecDepth 100000
set_option linter.unusedSimpArgs false
set_option linter.unusedVariables false
set_option linter.unusedSectionVars false
set_option linter.defProp false
namespace Go.Proofs.YtolkimpelpnpbaaGreatDoor
open Go Go.Ab Go.Lx Go.Sx Go.ChangeShapes Go.WideShapes Go.RowKit Go.ChangeMaps
theorem Vf (H:Type)(enc:TypeId×Value->H)(W:World)(base:Nat)(args:Array Value)(ds gs:List (DataW H))(before:List MemPlace)
  (hval0:∀(j:Nat) t v,Tryz.f5.params[j]? = some t->args[j]? = some v->Value.okWide Tryz.prog W .any base t v)
  (hW:DataW.Whole enc Tryz.prog Tryz.f5.params.toList Rows.purposesSmallestSpec.vars false W args.toList ds gs before) (hk:Rows.uptoSmall H (ds++gs)=true) (hL:laidMetH Tryz.prog laidL W) :
  Calls Tryz.prog 5 args W fun e W'=>∃v,e=.returned v/\Rows.purposesSmallestSpec.post enc Tryz.prog Tryz.f5 false true false false W args v W':=by
 have hval:∀(j:Nat) t v,Tryz.f5.params[j]? = some t->args[j]? = some v->Value.okWide Tryz.prog W .any base t v:=hval0;have hW':=hW;obtain⟨p,q,hA0,hV0,rfl,hfz,hnd⟩:=hW;have hA:DataW.TrodAll enc Tryz.prog W 0 (fun _=>true) true Tryz.f5.params.toList args.toList ds p:=hA0;have hV:DataW.TrodVars enc Tryz.prog W (fun _=>true) [] gs q:=hV0;rw[Tryz.params5]at hA hval;obtain⟨v0,v1,d0,d1,p0,p1,rfl,rfl,rfl,h0,h1⟩:=trodAll_two hA;obtain⟨cs0,rfl⟩:∃cs,v0=.agg cs:=by
  have hv:=hval 0 32 v0 rfl rfl;unfold Value.okWide at hv;rw[Tryz.underlying32]at hv;obtain⟨cs,h,_⟩:=hv;exact⟨cs,h⟩
 obtain⟨cs1,rfl⟩:∃cs,v1=.agg cs:=by
  have hv:=hval 1 42 v1 rfl rfl;unfold Value.okWide at hv;rw[Tryz.underlying42]at hv;obtain⟨cs,h,_⟩:=hv;exact⟨cs,h⟩
 obtain⟨x0,f0,b0,r0⟩:=Xkr (X0v (H:=H)) (ow:=own (envOf W)) (not_own W) X5x X0l (t:=32) (by decide) h0;obtain⟨y0,rfl,hy0,ho0⟩:=Yak f0;obtain⟨x1,f1,b1,r1⟩:=Xkr (X0v (H:=H)) (ow:=own (envOf W)) (not_own W) X5x X0l (t:=42) (by decide) h1;obtain⟨q1,rfl,hq1⟩:=Yuw f1;have hnm1:q1.form.nm<=1000000:=by
  have h1:=X0w hk (d:=d1) (by simp);have h2:=Yq8 q1;omega
 have hlt:=hA.lt;obtain⟨rfl,rfl⟩:gs=[]/\q=[]:=by
  cases gs with
  | nil=>exact⟨rfl,hV⟩
  | cons g r=>exact absurd hV (by intro h; cases h)
 have e1:Rows.purposesSmallestSpec.fn H ([d0,d1]++[])={ results:=[.lit (.bool true)],args:=[d0,d1] }:=by simp[Rows.purposesSmallestSpec]
 refine (law_run (f:=5) (vs:=[.d y0.enc,.d q1.enc]) (args:=[.agg cs0,.agg cs1]) hL (fun hP hI hL=>Jv hP (Yg0 hP hI hL) hL.keys hy0 ho0 hq1 hnm1 rfl) ?_).mono fun e W' ⟨he,hb⟩=>?_
 ·exact⟨_,_,rfl,.inr (.inl ⟨rfl,cs0.toList,by simp,r0⟩),⟨_,_,rfl,.inr (.inl ⟨rfl,cs1.toList,by simp,r1⟩),rfl⟩⟩
 ·subst he;refine⟨_,rfl,_,_,_,[],p0++p1,[],hW',?_,?_,?_,hb.frame _,fun h=>by cases h⟩
  ·rw[e1]; exact trodAll_mk1 (shut_bool Tryz.underlying4 true)
  ·rw[e1];exact trodAll_mk2 (Below.trod laid_out (by kernel_rfl) (Ucw (by kernel_rfl)) h0 hb (fun x hx=>hlt x (by simp[hx]))) (Below.trod laid_out (by kernel_rfl) (Ucw (by kernel_rfl)) h1 hb (fun x hx=>hlt x (by simp[hx])))
  ·rw[e1]; rfl
theorem Ug (os:Os){H:Type}(enc:TypeId×Value->H):∃ds places,DataW.whole enc Tryz.prog ((laidWorld os).forCall (fun _ _=>0) ⟨#[],#[.agg #[.slice none 0 0,.slice none 0 0,.slice none 0 0,.slice none 0 0,.slice none 0 0,.slice none 0 0,.slice none 0 0],.agg #[.string ⟨#[]⟩,.int .i64 0,.slice none 0 0,.int .i64 0,.int .i64 0,.slice none 0 0,.int .i64 0,.string ⟨#[]⟩,.string ⟨#[]⟩,.int .i64 0,.int .i64 0,.int .i64 0,.string ⟨#[]⟩,.string ⟨#[]⟩,.int .i64 0,.int .i64 0,.int .i64 0]],[]⟩).memory Tryz.f5.params.toList Rows.purposesSmallestSpec.vars false #[.agg #[.slice none 0 0,.slice none 0 0,.slice none 0 0,.slice none 0 0,.slice none 0 0,.slice none 0 0,.slice none 0 0],.agg #[.string ⟨#[]⟩,.int .i64 0,.slice none 0 0,.int .i64 0,.int .i64 0,.slice none 0 0,.int .i64 0,.string ⟨#[]⟩,.string ⟨#[]⟩,.int .i64 0,.int .i64 0,.int .i64 0,.string ⟨#[]⟩,.string ⟨#[]⟩,.int .i64 0,.int .i64 0,.int .i64 0]].toList 8=some (ds,[],places)/\ds=[.agg [.agg [.nil,.nil,.nil,.nil,.nil,.nil],.nil],.agg [.lit (.string []),.lit (.int .i64 0),.nil,.agg [.lit (.int .i64 0),.lit (.int .i64 0),.nil,.agg [.lit (.int .i64 0),.agg [.lit (.string []),.lit (.string []),.lit (.int .i64 0),.lit (.int .i64 0),.lit (.int .i64 0)],.agg [.lit (.string []),.lit (.string []),.lit (.int .i64 0),.lit (.int .i64 0),.lit (.int .i64 0)]]]]]:=
 ⟨[.agg [.agg [.nil,.nil,.nil,.nil,.nil,.nil],.nil],.agg [.lit (.string []),.lit (.int .i64 0),.nil,.agg [.lit (.int .i64 0),.lit (.int .i64 0),.nil,.agg [.lit (.int .i64 0),.agg [.lit (.string []),.lit (.string []),.lit (.int .i64 0),.lit (.int .i64 0),.lit (.int .i64 0)],.agg [.lit (.string []),.lit (.string []),.lit (.int .i64 0),.lit (.int .i64 0),.lit (.int .i64 0)]]]]],[],by kernel_rfl,rfl⟩
theorem V2 (os:Os)(started:os.Started)(H:Type)(enc:TypeId×Value->H)(F:Stop.Interp) :
  ReturnsInHanded {} Tryz.checked os 5 .any ((Rows.OpenSpec.upto Rows.purposesSmallestSpec).preRow enc Tryz.prog Tryz.f5 Rows.purposesSmallestUptoRow.domain false laidL) (((Rows.OpenSpec.upto Rows.purposesSmallestSpec).at F).post enc Tryz.prog Tryz.f5 false true false false):=by
 obtain⟨ds,places,hx,hds⟩:=Ug os enc;refine returnsInHanded_of_row (C:=Tryz.checked) (s:=Rows.OpenSpec.upto Rows.purposesSmallestSpec) own_knob started (by kernel_rfl) Tryz.func5
  (witness_row_at (enc:=enc) (C:=Tryz.checked) false (laidWorld os) #[.agg #[.slice none 0 0,.slice none 0 0,.slice none 0 0,.slice none 0 0,.slice none 0 0,.slice none 0 0,.slice none 0 0],.agg #[.string ⟨#[]⟩,.int .i64 0,.slice none 0 0,.int .i64 0,.int .i64 0,.slice none 0 0,.int .i64 0,.string ⟨#[]⟩,.string ⟨#[]⟩,.int .i64 0,.int .i64 0,.int .i64 0,.string ⟨#[]⟩,.string ⟨#[]⟩,.int .i64 0,.int .i64 0,.int .i64 0]] rfl (by kernel_rfl) (by kernel_rfl) (by kernel_rfl)
   (OpenSpec.preRow_of_cond 8 hx (by subst hds; kernel_rfl) (fun k hk=>by cases hk; subst hds; kernel_rfl) (by subst hds; kernel_rfl) (laid_met os _))) ?_
 intro W base args ds gs before hval hW _ hcond _ hL _ _;exact Vf H enc W base args ds gs before hval hW (hcond _ rfl) hL
theorem purposesSmallest_row:Rows.PurposesSmallestUptoSaid:=
 OpenClaim.holds_of_cond 5 Tryz.f5 rfl rfl rfl rfl rfl rfl rfl ⟨rfl,rfl,rfl,rfl,rfl⟩ rfl rfl rfl rfl rfl (by kernel_rfl) Tryz.func5 Uf
  (Ucw (by kernel_rfl)) (by unfold Func.isWrapper; rw[Ubo (of_decide_eq_false (by kernel_rfl))]; exact⟨rfl,rfl⟩)
  (fun os started H enc _ F=>by rw[OpenClaim.pre_eq_preRow]; exact V2 os started H enc F)
end Go.Proofs.YtolkimpelpnpbaaGreatDoor
