/- Joined texts, part 13 of 13. SchemasSteps: the row, the card. Condition: none. -/
import Derived.Test.YtghnkpkellnmdaaGreatDoorI9
import Derived.Test.YtghnkpkellnmdaaGreatDoorI12
import Derived.Test.YtghnkpkellnmdaaGreatDoorRows
import Derived.Test.YtghnkpkellnmdaaGreatDoorCards
import Derived.Test.YtghnkpkellnmdaaGreatDoorTie
import Derived.SevenTiedAt
set_option maxRecDepth 100000
set_option linter.unusedSimpArgs false
set_option linter.unusedVariables false
namespace Go.Proofs.YtghnkpkellnmdaaGreatDoor
open Go Go.Ab Go.ChangeShapes Go.WideShapes Go.RowKit Go.ChangeMaps
theorem D4 (os:Os)(started:os.Started)(H:Type)(enc:TypeId×Value->H):
 ReturnsInHanded {} Tryz.checked os 3 .any (λw args=>(Rows.schemasStepsSpec.pre enc Tryz.prog Tryz.f3 [] false w args/\laidMetH Tryz.prog Em w)/\sizedMet enc Tryz.prog Tryz.f3 (OpenSpec.ofChange Rows.schemasStepsSpec) false w args)
  (Rows.schemasStepsSpec.post enc Tryz.prog Tryz.f3 false true false false):=by
 refine returnsInHanded_of_change_and (C:=Tryz.checked) (X:=λw _=>laidMetH Tryz.prog Em w) (λ_ _ _ hh h=>h.of_heap hh) Kl started (by kernel_rfl) Tryz.func3
  (ChangeSpec.witness_at (enc:=enc) (C:=Tryz.checked) (os:=os) (X:=λw _=>laidMetH Tryz.prog Em w) false (Fy os) #[.string ⟨#[]⟩] 8 rfl (by kernel_rfl) (by kernel_rfl) (by kernel_rfl) (by kernel_rfl) (by kernel_rfl) (Kg os _)) ?_
 intro W A1 args ds gs before hval0 hW _ _ hL _;have hval:∀(j:Nat) t v,Tryz.f3.params[j]? = some t->args[j]? = some v->Value.okWide Tryz.prog W .any A1 t v:=hval0;have hW':=hW;obtain⟨p,q,hA0,hV0,rfl,hfz,hnd⟩:=hW;have hA:DataW.TrodAll enc Tryz.prog W 0 (λ_=>true) true Tryz.f3.params.toList args.toList ds p:=hA0;have hV:DataW.TrodVars enc Tryz.prog W (λ_=>true) [] gs q:=hV0;rw[Tryz.params3]at hA hval;obtain⟨v0,d0,rfl,rfl,h0⟩:=trodAll_one hA;obtain⟨s0,rfl,rfl,rfl,hs0⟩:=open_string Tryz.underlying9 (hval 0 9 v0 rfl rfl) h0;have hlt:=hA.lt;obtain⟨rfl,rfl⟩:gs=[]/\q=[]:=by
  cases gs with
  |nil=>exact⟨rfl,hV⟩
  |cons g r=>exact absurd hV (by intro h;cases h)
 have e1:Rows.schemasStepsSpec.fn H ([.lit (.string s0.data.toList)]++[])={results:=[.lit (.bool true)],args:=[.lit (.string s0.data.toList)] }:=by simp[Rows.schemasStepsSpec]
 refine(Mj (f:=3) (vs:=[.d (.AU s0.data.toList)]) (args:=[.string s0]) hL (λhP hI hG hL hKs=>FH hP (λob K h=>Md hP hI hG hL hKs h) hI hL s0.data.toList rfl) ?_).mono λe W' ⟨he,hb⟩=>?_
 ·have rep_of_str:∀{s:ByteArray},(V.d (.AU s.data.toList)).Ax W (Fu W) (.string s):=λ{s}=>by simp[V.Ax,V.isAgg,V.Al,D.Ax]
  exact⟨_,_,rfl,rep_of_str,rfl⟩
 ·subst he;refine⟨_,rfl,_,_,_,[],[],[],hW',?_,?_,?_,hb.frame _,λh=>by cases h⟩
  ·rw[e1];exact trodAll_mk1 (shut_bool Tryz.underlying4 true)
  ·rw[e1];exact trodAll_mk1 (shut_string Tryz.underlying9 hs0)
  ·rw[e1];rfl
theorem Mc {a b:Bool}(h:a=true)(h':b=true):(a&&b)=true:=by rw[h,h'];rfl
set_option maxHeartbeats 20000000 in
theorem EG:joinedFacts Tryz.pinned.checked.prog 3 Tryz.f3 Rows.schemasStepsSpec Rows.schemasStepsRow=true:=by
 unfold joinedFacts
 repeat' with_reducible refine Mc ?_ ?_
 all_goals (as_aux_lemma=>kernel_rfl)
theorem Ei:Rows.SchemasStepsSaid:=
 OpenClaim.holds_of_wide 3 Tryz.f3 rfl rfl rfl rfl rfl rfl rfl ⟨rfl,rfl,rfl,rfl,rfl⟩ rfl rfl rfl rfl rfl (by kernel_rfl) Tryz.func3 EG
  (of_decide_eq_true (by kernel_rfl)) (by unfold Func.isWrapper;rw[Aq (of_decide_eq_false (by kernel_rfl))];exact⟨rfl,rfl⟩)
  (λos started H enc _=>D4 os started H enc)
theorem schemasSteps_holds:Rows.SchemasStepsCardSaid:=
 Claim7.holds_tied_plain_at .later [] [.data,.data,.data,.data,.wider,.wider,.wider,.wider,.wider] true (true, "ff78e27e026cd0974ed4d4c7196a577dc33dbdfc50353d51fbfc17876ae08fed") true
  Ei (λ_ h=>by cases h) (by kernel_rfl) (λ_ h=>by cases h) schemasSteps_row_tie rfl ⟨rfl,rfl⟩ (by kernel_rfl) rfl
  (λf fn hf hfn=>by
   obtain rfl:f=3:=GI ((show Tryz.prog.funcNamed "testamur/testamurlaw16.SchemasSteps" = some 3 by kernel_rfl).symm.trans hf) |>.symm
   obtain rfl:fn=Tryz.f3:=(GI (Tryz.func3.symm.trans hfn)).symm;exact⟨by kernel_rfl,λj t ht=>by
    rw[Tryz.params3]at ht;rcases j with _|j
    ·obtain rfl:t=9:=by simpa using ht.symm
     exact(show Tryz.prog.wantsStandIn 9=false by kernel_rfl)
    ·simp at ht⟩)
  (by kernel_rfl)
end Go.Proofs.YtghnkpkellnmdaaGreatDoor
