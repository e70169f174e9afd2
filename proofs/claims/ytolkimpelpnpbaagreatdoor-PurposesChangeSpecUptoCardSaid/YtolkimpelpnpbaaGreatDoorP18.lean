/- Texts of this claim joined by a program, part 18 of 20; the last is: PurposesChangeSpec, the second form: the row. Condition: none. -/
import Derived.Test.YtolkimpelpnpbaaGreatDoorP8
import Derived.Test.YtolkimpelpnpbaaGreatDoorP16
import Derived.Test.YtolkimpelpnpbaaGreatDoorP17
import Derived.Test.YtolkimpelpnpbaaGreatDoorCards
import Derived.Test.YtolkimpelpnpbaaGreatDoorTie
import Derived.SevenTiedAt
import Derived.Deep.DeepHandedRow
set_option maxRecDepth 100000
set_option linter.unusedSimpArgs false
set_option linter.unusedVariables false
set_option linter.unusedSectionVars false
set_option linter.defProp false
namespace Go.Proofs.YtolkimpelpnpbaaGreatDoor
open Go Go.Ab Go.Lx Go.Sx Go.ChangeShapes Go.WideShapes Go.RowKit Go.ChangeMaps
theorem Ve (H:Type)(enc:TypeId×Value->H)(W:World)(base:Nat)(args:Array Value)(ds gs:List (DataW H))(before:List MemPlace)
  (hval0:∀(j:Nat) t v,Tryz.f4.params[j]? = some t->args[j]? = some v->Value.okWide Tryz.prog W .any base t v)
  (hW:DataW.Whole enc Tryz.prog Tryz.f4.params.toList Rows.purposesChangeSpecSpec.vars false W args.toList ds gs before) (hk:Rows.uptoSmall H (ds++gs)=true) (hL:laidMetH Tryz.prog laidL W) :
  Calls Tryz.prog 4 args W fun e W'=>∃v,e=.returned v/\Rows.purposesChangeSpecSpec.post enc Tryz.prog Tryz.f4 false true false false W args v W':=by
 have hval:∀(j:Nat) t v,Tryz.f4.params[j]? = some t->args[j]? = some v->Value.okWide Tryz.prog W .any base t v:=hval0;have hW':=hW;obtain⟨p,q,hA0,hV0,rfl,hfz,hnd⟩:=hW;have hA:DataW.TrodAll enc Tryz.prog W 0 (fun _=>true) true Tryz.f4.params.toList args.toList ds p:=hA0;have hV:DataW.TrodVars enc Tryz.prog W (fun _=>true) [] gs q:=hV0;rw[Tryz.params4]at hA hval;obtain⟨v0,v1,v2,d0,d1,d2,p0,p1,p2,rfl,rfl,rfl,h0,h1,h2⟩:=trodAll_three hA;obtain⟨cs0,rfl⟩:∃cs,v0=.agg cs:=by
  have hv:=hval 0 32 v0 rfl rfl;unfold Value.okWide at hv;rw[Tryz.underlying32]at hv;obtain⟨cs,h,_⟩:=hv;exact⟨cs,h⟩
 obtain⟨cs1,rfl⟩:∃cs,v1=.agg cs:=by
  have hv:=hval 1 42 v1 rfl rfl;unfold Value.okWide at hv;rw[Tryz.underlying42]at hv;obtain⟨cs,h,_⟩:=hv;exact⟨cs,h⟩
 have sv2:v2.cells=#[v2]/\∀cs,v2 ≠ .agg cs:=by
  rcases okWide_slice (by kernel_rfl:Tryz.prog.underlying 45=some (.slice 56)) (hval 2 45 v2 rfl rfl) with rfl | ⟨a,l,c,rfl,_⟩
  ·exact⟨rfl,fun _ h=>by cases h⟩
  ·exact⟨rfl,fun _ h=>by cases h⟩
 obtain⟨x0,f0,b0,r0⟩:=Xd7 (Xqo (H:=H)) (ow:=own (envOf W)) (not_own W) X40 Xqm (t:=32) (by decide) h0;obtain⟨y0,rfl,hy0,ho0⟩:=Yf0 f0;obtain⟨x1,f1,b1,r1⟩:=Xd7 (Xqo (H:=H)) (ow:=own (envOf W)) (not_own W) X40 Xqm (t:=42) (by decide) h1;obtain⟨q1,rfl,hq1⟩:=Y1u f1;have hnm1:q1.form.nm<=1000000:=by
  have h1:=X5c hk (d:=d1) (by simp);have h2:=Yxo q1;omega
 obtain⟨x2,f2,b2,r2⟩:=Xd7 (Xqo (H:=H)) (ow:=own (envOf W)) (not_own W) X40 Xqm (t:=45) (by decide) h2;obtain⟨l2,rfl,hl2⟩:=X80 f2;rw[sv2.1]at r2;have hlt:=hA.lt;obtain⟨rfl,rfl⟩:gs=[]/\q=[]:=by
  cases gs with
  | nil=>exact⟨rfl,hV⟩
  | cons g r=>exact absurd hV (by intro h; cases h)
 have e1:Rows.purposesChangeSpecSpec.fn H ([d0,d1,d2]++[])={ results:=[.lit (.bool true)],args:=[d0,d1,d2] }:=by simp[Rows.purposesChangeSpecSpec]
 refine (law_run (f:=4) (vs:=[.d y0.enc,.d q1.enc,.d (.list 4 (l2.map RRef.enc))]) (args:=[.agg cs0,.agg cs1,v2]) hL (fun hP hI hL=>Q1 hP (Ymt hP hI hL) hL.keys hy0 ho0 hq1 hnm1 l2 rfl) ?_).mono fun e W' ⟨he,hb⟩=>?_
 ·exact⟨_,_,rfl,.inr (.inl ⟨rfl,cs0.toList,by simp,r0⟩),⟨_,_,rfl,.inr (.inl ⟨rfl,cs1.toList,by simp,r1⟩),⟨_,_,rfl,.inr (.inr ⟨rfl,by simpa[V.repC]using r2⟩),rfl⟩⟩⟩
 ·subst he;refine⟨_,rfl,_,_,_,[],p0++(p1++p2),[],hW',?_,?_,?_,hb.frame _,fun h=>by cases h⟩
  ·rw[e1]; exact trodAll_mk1 (shut_bool Tryz.underlying4 true)
  ·rw[e1];exact trodAll_mk3 (Below.trod laid_out (by kernel_rfl) (Ucy (by kernel_rfl)) h0 hb (fun x hx=>hlt x (by simp[hx]))) (Below.trod laid_out (by kernel_rfl) (Ucy (by kernel_rfl)) h1 hb (fun x hx=>hlt x (by simp[hx]))) (Below.trod laid_out (by kernel_rfl) (Ucy (by kernel_rfl)) h2 hb (fun x hx=>hlt x (by simp[hx])))
  ·rw[e1]; rfl
theorem V6 (os:Os){H:Type}(enc:TypeId×Value->H):∃ds places,DataW.whole enc Tryz.prog ((laidWorld os).forCall (fun _ _=>0) ⟨#[],#[.agg #[.slice none 0 0,.slice none 0 0,.slice none 0 0,.slice none 0 0,.slice none 0 0,.slice none 0 0,.slice none 0 0],.agg #[.string ⟨#[]⟩,.int .i64 0,.slice none 0 0,.int .i64 0,.int .i64 0,.slice none 0 0,.int .i64 0,.string ⟨#[]⟩,.string ⟨#[]⟩,.int .i64 0,.int .i64 0,.int .i64 0,.string ⟨#[]⟩,.string ⟨#[]⟩,.int .i64 0,.int .i64 0,.int .i64 0],.slice none 0 0],[]⟩).memory Tryz.f4.params.toList Rows.purposesChangeSpecSpec.vars false #[.agg #[.slice none 0 0,.slice none 0 0,.slice none 0 0,.slice none 0 0,.slice none 0 0,.slice none 0 0,.slice none 0 0],.agg #[.string ⟨#[]⟩,.int .i64 0,.slice none 0 0,.int .i64 0,.int .i64 0,.slice none 0 0,.int .i64 0,.string ⟨#[]⟩,.string ⟨#[]⟩,.int .i64 0,.int .i64 0,.int .i64 0,.string ⟨#[]⟩,.string ⟨#[]⟩,.int .i64 0,.int .i64 0,.int .i64 0],.slice none 0 0].toList 8=some (ds,[],places)/\ds=[.agg [.agg [.nil,.nil,.nil,.nil,.nil,.nil],.nil],.agg [.lit (.string []),.lit (.int .i64 0),.nil,.agg [.lit (.int .i64 0),.lit (.int .i64 0),.nil,.agg [.lit (.int .i64 0),.agg [.lit (.string []),.lit (.string []),.lit (.int .i64 0),.lit (.int .i64 0),.lit (.int .i64 0)],.agg [.lit (.string []),.lit (.string []),.lit (.int .i64 0),.lit (.int .i64 0),.lit (.int .i64 0)]]]],.nil]:=
 ⟨[.agg [.agg [.nil,.nil,.nil,.nil,.nil,.nil],.nil],.agg [.lit (.string []),.lit (.int .i64 0),.nil,.agg [.lit (.int .i64 0),.lit (.int .i64 0),.nil,.agg [.lit (.int .i64 0),.agg [.lit (.string []),.lit (.string []),.lit (.int .i64 0),.lit (.int .i64 0),.lit (.int .i64 0)],.agg [.lit (.string []),.lit (.string []),.lit (.int .i64 0),.lit (.int .i64 0),.lit (.int .i64 0)]]]],.nil],[],by kernel_rfl,rfl⟩
theorem Vx (os:Os)(started:os.Started)(H:Type)(enc:TypeId×Value->H)(F:Stop.Interp) :
  ReturnsInHanded {} Tryz.checked os 4 .any ((Rows.OpenSpec.upto Rows.purposesChangeSpecSpec).preRow enc Tryz.prog Tryz.f4 Rows.purposesChangeSpecUptoRow.domain false laidL) (((Rows.OpenSpec.upto Rows.purposesChangeSpecSpec).at F).post enc Tryz.prog Tryz.f4 false true false false):=by
 obtain⟨ds,places,hx,hds⟩:=V6 os enc;refine returnsInHanded_of_row (C:=Tryz.checked) (s:=Rows.OpenSpec.upto Rows.purposesChangeSpecSpec) own_knob started (by kernel_rfl) Tryz.func4
  (witness_row_at (enc:=enc) (C:=Tryz.checked) false (laidWorld os) #[.agg #[.slice none 0 0,.slice none 0 0,.slice none 0 0,.slice none 0 0,.slice none 0 0,.slice none 0 0,.slice none 0 0],.agg #[.string ⟨#[]⟩,.int .i64 0,.slice none 0 0,.int .i64 0,.int .i64 0,.slice none 0 0,.int .i64 0,.string ⟨#[]⟩,.string ⟨#[]⟩,.int .i64 0,.int .i64 0,.int .i64 0,.string ⟨#[]⟩,.string ⟨#[]⟩,.int .i64 0,.int .i64 0,.int .i64 0],.slice none 0 0] rfl (by kernel_rfl) (by kernel_rfl) (by kernel_rfl)
   (OpenSpec.preRow_of_cond 8 hx (by subst hds; kernel_rfl) (fun k hk=>by cases hk; subst hds; kernel_rfl) (by subst hds; kernel_rfl) (laid_met os _))) ?_
 intro W base args ds gs before hval hW _ hcond _ hL _ _;exact Ve H enc W base args ds gs before hval hW (hcond _ rfl) hL
theorem purposesChangeSpec_row:Rows.PurposesChangeSpecUptoSaid:=
 OpenClaim.holds_of_cond 4 Tryz.f4 rfl rfl rfl rfl rfl rfl rfl ⟨rfl,rfl,rfl,rfl,rfl⟩ rfl rfl rfl rfl rfl (by kernel_rfl) Tryz.func4 V5
  (Ucy (by kernel_rfl)) (by unfold Func.isWrapper; rw[Ubo (of_decide_eq_false (by kernel_rfl))]; exact⟨rfl,rfl⟩)
  (fun os started H enc _ F=>by rw[OpenClaim.pre_eq_preRow]; exact Vx os started H enc F)
end Go.Proofs.YtolkimpelpnpbaaGreatDoor
