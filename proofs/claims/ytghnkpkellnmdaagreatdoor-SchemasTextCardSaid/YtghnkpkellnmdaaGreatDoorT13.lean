/- Joined texts, part 13 of 13. SchemasText: the row, the card. Condition: none. -/
import Derived.Test.YtghnkpkellnmdaaGreatDoorT11
import Derived.Test.YtghnkpkellnmdaaGreatDoorT12
import Derived.Test.YtghnkpkellnmdaaGreatDoorRows
import Derived.Test.YtghnkpkellnmdaaGreatDoorCards
import Derived.Test.YtghnkpkellnmdaaGreatDoorTie
import Derived.SevenTiedAt
set_option maxRecDepth 100000
set_option linter.unusedSimpArgs false
set_option linter.unusedVariables false
namespace Go.Proofs.YtghnkpkellnmdaaGreatDoor
open Go Go.Ab Go.ChangeShapes Go.WideShapes Go.RowKit Go.ChangeMaps
theorem Ee (os:Os)(started:os.Started)(H:Type)(enc:TypeId×Value->H):
 ReturnsInHanded {} Tryz.checked os 4 .any (λw args=>(Rows.schemasTextSpec.pre enc Tryz.prog Tryz.f4 [] false w args/\laidMetH Tryz.prog E8 w)/\sizedMet enc Tryz.prog Tryz.f4 (OpenSpec.ofChange Rows.schemasTextSpec) false w args)
  (Rows.schemasTextSpec.post enc Tryz.prog Tryz.f4 false true false false):=by
 refine returnsInHanded_of_change_and (C:=Tryz.checked) (X:=λw _=>laidMetH Tryz.prog E8 w) (λ_ _ _ hh h=>h.of_heap hh) LV started (by kernel_rfl) Tryz.func4
  (ChangeSpec.witness_at (enc:=enc) (C:=Tryz.checked) (os:=os) (X:=λw _=>laidMetH Tryz.prog E8 w) false (GF os) #[.string ⟨#[]⟩] 8 rfl (by kernel_rfl) (by kernel_rfl) (by kernel_rfl) (by kernel_rfl) (by kernel_rfl) (LO os _)) ?_
 intro W BA args ds gs before hval0 hW _ _ hL _;have hval:∀(j:Nat) t v,Tryz.f4.params[j]? = some t->args[j]? = some v->Value.okWide Tryz.prog W .any BA t v:=hval0;have hW':=hW;obtain⟨p,q,hA0,hV0,rfl,hfz,hnd⟩:=hW;have hA:DataW.TrodAll enc Tryz.prog W 0 (λ_=>true) true Tryz.f4.params.toList args.toList ds p:=hA0;have hV:DataW.TrodVars enc Tryz.prog W (λ_=>true) [] gs q:=hV0;rw[Tryz.params4]at hA hval;obtain⟨v0,d0,rfl,rfl,h0⟩:=trodAll_one hA;obtain⟨s0,rfl,rfl,rfl,hs0⟩:=open_string Tryz.underlying9 (hval 0 9 v0 rfl rfl) h0;have hlt:=hA.lt;obtain⟨rfl,rfl⟩:gs=[]/\q=[]:=by
  cases gs with
  |nil=>exact⟨rfl,hV⟩
  |cons g r=>exact absurd hV (by intro h;cases h)
 have e1:Rows.schemasTextSpec.fn H ([.lit (.string s0.data.toList)]++[])={results:=[.lit (.bool true)],args:=[.lit (.string s0.data.toList)] }:=by simp[Rows.schemasTextSpec]
 refine(NZ (f:=4) (vs:=[.d (.AV s0.data.toList)]) (args:=[.string s0]) hL (λhP hI hG hL hKs=>Fx hP (λob K h=>NW hP hI hG hL hKs h) hI hG hL hKs s0.data.toList rfl) ?_).mono λe W' ⟨he,hb⟩=>?_
 ·have rep_of_str:∀{s:ByteArray},(V.d (.AV s.data.toList)).A1 W (GB W) (.string s):=λ{s}=>by simp[V.A1,V.isAgg,V.Au,D.A1]
  exact⟨_,_,rfl,rep_of_str,rfl⟩
 ·subst he;refine⟨_,rfl,_,_,_,[],[],[],hW',?_,?_,?_,hb.frame _,λh=>by cases h⟩
  ·rw[e1];exact trodAll_mk1 (shut_bool Tryz.underlying4 true)
  ·rw[e1];exact trodAll_mk1 (shut_string Tryz.underlying9 hs0)
  ·rw[e1];rfl
theorem NV {a b:Bool}(h:a=true)(h':b=true):(a&&b)=true:=by rw[h,h'];rfl
set_option maxHeartbeats 20000000 in
theorem En:joinedFacts Tryz.pinned.checked.prog 4 Tryz.f4 Rows.schemasTextSpec Rows.schemasTextRow=true:=by
 unfold joinedFacts
 repeat' with_reducible refine NV ?_ ?_
 all_goals (as_aux_lemma=>kernel_rfl)
theorem FI:Rows.SchemasTextSaid:=
 OpenClaim.holds_of_wide 4 Tryz.f4 rfl rfl rfl rfl rfl rfl rfl ⟨rfl,rfl,rfl,rfl,rfl⟩ rfl rfl rfl rfl rfl (by kernel_rfl) Tryz.func4 En
  (of_decide_eq_true (by kernel_rfl)) (by unfold Func.isWrapper;rw[A5 (of_decide_eq_false (by kernel_rfl))];exact⟨rfl,rfl⟩)
  (λos started H enc _=>Ee os started H enc)
theorem schemasText_holds:Rows.SchemasTextCardSaid:=
 Claim7.holds_tied_plain_at .later [] [.data,.data,.data,.data,.wider,.wider,.wider,.wider,.wider] true (true, "ff78e27e026cd0974ed4d4c7196a577dc33dbdfc50353d51fbfc17876ae08fed") true
  FI (λ_ h=>by cases h) (by kernel_rfl) (λ_ h=>by cases h) schemasText_row_tie rfl ⟨rfl,rfl⟩ (by kernel_rfl) rfl
  (λf fn hf hfn=>by
   obtain rfl:f=4:=JR ((show Tryz.prog.funcNamed "testamur/testamurlaw16.SchemasText" = some 4 by kernel_rfl).symm.trans hf) |>.symm
   obtain rfl:fn=Tryz.f4:=(JR (Tryz.func4.symm.trans hfn)).symm;exact⟨by kernel_rfl,λj t ht=>by
    rw[Tryz.params4]at ht;rcases j with _|j
    ·obtain rfl:t=9:=by simpa using ht.symm
     exact(show Tryz.prog.wantsStandIn 9=false by kernel_rfl)
    ·simp at ht⟩)
  (by kernel_rfl)
end Go.Proofs.YtghnkpkellnmdaaGreatDoor
