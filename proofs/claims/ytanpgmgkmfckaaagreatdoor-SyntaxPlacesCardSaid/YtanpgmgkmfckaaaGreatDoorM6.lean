/- Texts of this claim joined by a program, part 6 of 7; the last is: The law SyntaxPlaces. Condition: the program is the seat's; its package variables are laid. -/
import Derived.Test.YtanpgmgkmfckaaaGreatDoorM5
import Derived.Test.YtanpgmgkmfckaaaGreatDoorProg
import Derived.KernelRfl
set_option linter.unusedSimpArgs false
set_option linter.unusedVariables false
set_option linter.unusedSectionVars false
/- An evaluator of calls, and that what it yields holds. Over any program; no condition. -/
namespace Go.Ab
open Go

inductive FI where
  | pl (s : S) (rs : List RV) (n : Nat)
  | df (s : FSt) (rs : List RV) (n : Nat)
  | rc (its : List It) (keep : List Nat) (k : Nat) (s : S) (n : Nat)
def FI.ok (p : Program) (f : Nat) : FI → Bool
  | .pl s rs n => fnOk p f n s rs
  | .df s rs n => fnOkD p f n s rs
  | .rc its _ k s n => dfnOk p f n k its s
abbrev FT := List (Nat × FI)
def lookF : FT → Nat → Option FI
  | [], _ => none
  | (j, x) :: r, k => bif Nat.beq j k then some x else lookF r k
def FT.ok (p : Program) (F : FT) : Prop := ∀ f x, lookF F f = some x → FI.ok p f x = true ∧ callable p f = true
theorem FT.ok_nil {p : Program} : FT.ok p [] := fun f x h => by cases h
theorem FT.ok_cons {p : Program} {f : Nat} {x : FI} {F : FT} (h : FI.ok p f x = true) (hc : callable p f = true) (hF : FT.ok p F) : FT.ok p ((f, x) :: F) := fun g y hg => by
  simp only [lookF] at hg
  rw [Bool.cond_eq_ite] at hg
  split at hg
  · rename_i e
    cases hg
    have e : f = g := Nat.eq_of_beq_eq_true e
    subst e
    exact ⟨h, hc⟩
  · exact hF g y hg

def RV.run (sl : Slots) (ob : Objs) : RV → Option V
  | .t k => some (look sl k)
  | .c k n ag => ldR ob n ag (look sl k)
def resR (sl : Slots) (ob : Objs) : List RV → Option (List V)
  | [] => some []
  | x :: r => match x.run sl ob with
    | some v => (resR sl ob r).map (v :: ·)
    | none => none
def gvsR : List V → Objs → List V × Objs
  | [], ob => ([], ob)
  | v :: r, ob => match V.giv ob v with
    | some (d, ob') => let p := gvsR r ob'; (.d d :: p.1, p.2)
    | none => let p := gvsR r ob; (v :: p.1, p.2)
def leaveR (n : Nat) (vs : List V) (ob : Objs) : Option Objs :=
  let kp := V.idss vs ++ idsO ob
  bif !V.mens (young n kp) vs && noMenO (young n kp) (dropO (young n kp) ob) then some (dropO (young n kp) ob) else none
def retR (n : Nat) (rs : List RV) (sl : Slots) (ob : Objs) : Option (Out × Objs) := match resR sl ob rs with
  | some vs => (leaveR n (gvsR vs ob).1 (gvsR vs ob).2).map fun b => (.ret (retV (gvsR vs ob).1), b)
  | none => none
def callR (n : Nat) (rs : List RV) : Rs → Option (Out × Objs)
  | some (.normal, sl, ob) => retR n rs sl ob
  | some (.ret, sl, ob) => retR n rs sl ob
  | some (.panic v, _, ob) => (leaveR n [v] ob).map fun b => (.panic v, b)
  | _ => none
def givsR (rs : List RV) (sl : Slots) (ob : Objs) : Option V := match resR sl ob rs with
  | some vs => (V.givs ob vs).map fun p => retV (p.1.map .d)
  | none => none
def pureR' (rs : List RV) : Rs → Option V
  | some (.normal, sl, ob) => givsR rs sl ob
  | some (.ret, sl, ob) => givsR rs sl ob
  | _ => none

def dRun (R : Fns) (L : Nat) (F : FT) (g : Nat) (vs : List V) (ob : Objs) (rv : Option V) : Option Objs := match lookF F g with
  | some (.rc its keep k s n) => bif Nat.beq n vs.length then
      (match rrun R its ((k, rv.getD (.d .nili)) :: argS 0 vs) ob with
        | .ok sl ob' => (match s.run R L (keepS sl keep) ob' with
          | some (.normal, _, ob2) => leaveR (fresh ob) [] ob2
          | some (.ret, _, ob2) => leaveR (fresh ob) [] ob2
          | _ => none)
        | _ => none)
    else none
  | _ => none
def V.isIfc : V → Bool
  | .iface _ _ => true
  | .d (.iface _ _) => true
  | _ => false
def dferR (R : Fns) (L : Nat) (F : FT) (g : Nat) (cl : List V) (rs : List RV) : Rs → Option V
  | some (.normal, sl, ob) => (dRun R L F g cl ob none).bind fun ob' => givsR rs sl ob'
  | some (.ret, sl, ob) => (dRun R L F g cl ob none).bind fun ob' => givsR rs sl ob'
  | some (.panic v, sl, ob) => bif v.isIfc then (dRun R L F g cl ob (some v)).bind fun ob' => givsR rs sl ob' else none
  | _ => none
def fRun (R : Fns) (L : Nat) (F : FT) (rs : List RV) : FSt → Slots → Objs → Option V
  | .pre s r, sl, ob => match s.run R L sl ob with
    | some (.normal, sl', ob') => fRun R L F rs r sl' ob'
    | some (.ret, sl', ob') => givsR rs sl' ob'
    | _ => none
  | .dfr its keep k s, sl, ob => match rrun R its sl ob with
    | .ok sl' ob' => (match look (keepS sl' keep) k with
      | .fn g fi ca => bif R.ca g then dferR R L F g (fi ++ ca) rs (s.run R L (keepS sl' keep) ob') else none
      | _ => none)
    | _ => none

def pcD (R : Fns) (L : Nat) (F : FT) (f : Nat) (ds : List D) : Option V := match lookF F f with
  | some (.pl s rs n) => bif Nat.beq n ds.length then pureR' rs (s.run R L (argS 0 (ds.map .d)) []) else none
  | some (.df s rs n) => bif Nat.beq n ds.length then fRun R L F rs s (argS 0 (ds.map .d)) [] else none
  | _ => none
def flatO (o : Option V) : Option V := match o with
  | some v => bif v.flatR then some v else none
  | none => none
def pcX (X R : Fns) (L : Nat) (F : FT) (f : Nat) (ds : List D) (ob : Objs) : Option V := match X.pc f (ds.map .d) ob with
  | some v => some v
  | none => pcD R L F f ds
def pcR (X R : Fns) (L : Nat) (F : FT) (f : Nat) (vs : List V) (ob : Objs) : Option V := match V.allD vs with
  | some ds => pcX X R L F f ds ob
  | none => match V.toDs ob 12 vs with
    | some ds => flatO (pcX X R L F f ds [])
    | none => none
def acR (R : Fns) (L : Nat) (F : FT) (f : Nat) (vs : List V) (ob : Objs) : Option (Out × Objs) := match lookF F f with
  | some (.pl s rs n) => bif Nat.beq n vs.length then callR (fresh ob) rs (s.run R L (argS 0 vs) ob) else none
  | some (.df _ _ _) => match V.allD vs with
    | some ds => (pcD R L F f ds).map fun v => (.ret v, ob)
    | none => none
  | _ => none
def fns (L : Nat) (F : FT) (X : Fns) : Nat → Fns
  | 0 => X
  | n + 1 => ⟨fun f vs ob => match X.call f vs ob with
      | some r => some r
      | none => acR (fns L F X n) L F f vs ob,
    fun f vs ob => pcR X (fns L F X n) L F f vs ob,
    fun f => (lookF F f).isSome || X.ca f, X.gl⟩

section
variable {P : Prg} {R : Fns} {L : Nat} {F : FT}
theorem resR_sound {sl : Slots} {ob : Objs} : ∀ (rs : List RV) (K : List V → Prop) (vs : List V), resR sl ob rs = some vs → K vs → resK sl ob rs K
  | [], K, vs, h, hK => by cases h; exact hK
  | x :: r, K, vs, h, hK => by
    simp only [resR] at h
    split at h
    · rename_i v hv
      rw [Option.map_eq_some_iff] at h
      obtain ⟨l, hl, rfl⟩ := h
      simp only [resK]
      have hr := resR_sound r (fun vs => K (v :: vs)) l hl hK
      cases x with
      | t k => simp only [RV.run, Option.some.injEq] at hv; subst hv; exact hr
      | c k n ag =>
        simp only [RV.run] at hv
        simp only [RV.wp]
        have h0 : (C.ld n ag (.t 0)).run [(0, look sl k)] ob = some v := by simpa [C.run, A.ev, look] using hv
        have h1 := C.run_sound (K := fun v => resK sl ob r fun vs => K (v :: vs)) h0 hr
        simpa [C.wp, A.ev, look] using h1
    · cases h
theorem gvsR_sound : ∀ (vs : List V) (ob : Objs) (K : List V → Objs → Prop), K (gvsR vs ob).1 (gvsR vs ob).2 → gvsK vs ob K
  | [], ob, K, h => h
  | v :: r, ob, K, h => by
    simp only [gvsR] at h
    simp only [gvsK]
    split at h
    · rename_i d ob' e
      rw [e]
      exact gvsR_sound r ob' _ h
    · rename_i e
      rw [e]
      exact gvsR_sound r ob _ h
theorem leaveR_sound {n : Nat} {vs : List V} {ob b : Objs} {K : Objs → Prop} (h : leaveR n vs ob = some b) (hK : K b) : leaveK n K vs ob := by
  unfold leaveR at h
  rw [Bool.cond_eq_ite] at h
  split at h
  · rename_i hc
    simp only [Bool.and_eq_true, Bool.not_eq_true'] at hc
    cases h
    exact ⟨_, hc.1, hc.2, hK⟩
  · cases h
theorem retR_sound {n : Nat} {rs : List RV} {sl : Slots} {ob b : Objs} {o : Out} {K : Out → Objs → Prop} (h : retR n rs sl ob = some (o, b)) (hK : K o b) : resK sl ob rs fun vs => gvsK vs ob fun vs ob => leaveK n (K (.ret (retV vs))) vs ob := by
  unfold retR at h
  split at h
  · rename_i vs hv
    rw [Option.map_eq_some_iff] at h
    obtain ⟨b', hb, e⟩ := h
    cases e
    exact resR_sound rs _ vs hv (gvsR_sound vs ob _ (leaveR_sound hb hK))
  · cases h
theorem callR_sound {n : Nat} {rs : List RV} {r : Rs} {o : Out} {b : Objs} {K : Out → Objs → Prop} (h : callR n rs r = some (o, b)) (hK : K o b) : r.to (callQ n rs K) := by
  unfold callR at h
  split at h
  · exact retR_sound h hK
  · exact retR_sound h hK
  · rw [Option.map_eq_some_iff] at h
    obtain ⟨b', hb, e⟩ := h
    cases e
    exact leaveR_sound hb hK
  · cases h
theorem givsR_sound {rs : List RV} {sl : Slots} {ob : Objs} {v : V} {K : V → Prop} (h : givsR rs sl ob = some v) (hK : K v) : resK sl ob rs fun vs => givsK (fun l _ => K (retV (l.map .d))) (V.givs ob vs) := by
  unfold givsR at h
  split at h
  · rename_i vs hv
    rw [Option.map_eq_some_iff] at h
    obtain ⟨p, hp, rfl⟩ := h
    refine resR_sound rs _ vs hv ?_
    rw [hp]; exact hK
  · cases h
theorem pureR_sound {rs : List RV} {r : Rs} {v : V} {K : V → Prop} (h : pureR' rs r = some v) (hK : K v) : r.to (pureQ rs K) := by
  unfold pureR' at h
  split at h
  · exact givsR_sound h hK
  · exact givsR_sound h hK
  · cases h
variable (hm : P.p.follows .mixedOrders = true) (hF : FT.ok P.p F) (hR : R.ok P)
include hm hF hR
theorem dRun_sound {g : Nat} {vs : List V} {ob b : Objs} {rv : Option V} {K : Objs → Prop} (h : dRun R L F g vs ob rv = some b) (hK : K b) : DCall P g vs ob rv K := by
  unfold dRun at h
  split at h
  · rename_i its keep k s n hl
    rw [Bool.cond_eq_ite] at h
    split at h
    · rename_i e
      have e : n = vs.length := Nat.eq_of_beq_eq_true e
      subst e
      have hok := (hF g _ hl).1
      simp only [FI.ok] at hok
      refine dcall_walk (keep := keep) hm hok (rrun_sound hR _ _ _ ?_)
      split at h
      · rename_i sl ob' e1
        rw [e1]
        refine S.run_sound (L := L) hR s _ _ _ ?_
        split at h
        · rename_i e2; rw [e2]; exact leaveR_sound h hK
        · rename_i e2; rw [e2]; exact leaveR_sound h hK
        · cases h
      · cases h
    · cases h
  · cases h
theorem dferR_sound {g : Nat} {cl : List V} {rs : List RV} {r : Rs} {v : V} {K : V → Prop} (h : dferR R L F g cl rs r = some v) (hK : K v) : r.to (dferQ P g cl rs K) := by
  unfold dferR at h
  split at h
  · rw [Option.bind_eq_some_iff] at h
    obtain ⟨b, h1, h2⟩ := h
    exact dRun_sound hm hF hR h1 (givsR_sound h2 hK)
  · rw [Option.bind_eq_some_iff] at h
    obtain ⟨b, h1, h2⟩ := h
    exact dRun_sound hm hF hR h1 (givsR_sound h2 hK)
  · rw [Bool.cond_eq_ite] at h
    split at h
    · rename_i hi
      rw [Option.bind_eq_some_iff] at h
      obtain ⟨b, h1, h2⟩ := h
      refine ⟨?_, dRun_sound hm hF hR h1 (givsR_sound h2 hK)⟩
      unfold V.isIfc at hi
      split at hi
      · exact ⟨_, _, .inl rfl⟩
      · exact ⟨_, .any, .inr ⟨_, rfl⟩⟩
      · cases hi
    · cases h
  · cases h
theorem fRun_sound {rs : List RV} {K : V → Prop} : ∀ (s : FSt) (sl : Slots) (ob : Objs) (v : V), fRun R L F rs s sl ob = some v → K v → fwp P rs K s sl ob
  | .pre s r, sl, ob, v, h, hK => by
    simp only [fRun] at h
    simp only [fwp]
    refine S.run_sound (L := L) hR s _ _ _ ?_
    split at h
    · rename_i e; rw [e]; exact fRun_sound r _ _ v h hK
    · rename_i e; rw [e]; exact givsR_sound h hK
    · cases h
  | .dfr its keep k s, sl, ob, v, h, hK => by
    simp only [fRun] at h
    simp only [fwp]
    refine rrun_sound hR _ _ _ ?_
    split at h
    · rename_i sl' ob' e
      rw [e]
      simp only [Rq.to]
      split at h
      · rename_i g fi ca e2
        rw [e2]
        rw [Bool.cond_eq_ite] at h
        split at h
        · rename_i hc
          exact ⟨hR.ca _ hc, S.run_sound (L := L) hR s _ _ _ (dferR_sound hm hF hR h hK)⟩
        · cases h
      · cases h
    · cases h
theorem pcD_sound {f : Nat} {ds : List D} {v : V} {ob : Objs} {K : V → Prop} (h : pcD R L F f ds = some v) (hK : K v) : PCall P f (ds.map .d) ob K := by
  unfold pcD at h
  split at h
  · rename_i s rs n hl
    rw [Bool.cond_eq_ite] at h
    split at h
    · rename_i e
      have e : n = ds.length := Nat.eq_of_beq_eq_true e
      subst e
      exact pcall_pure hm (hF f _ hl).1 (S.run_sound (L := L) hR s _ _ _ (pureR_sound h hK))
    · cases h
  · rename_i s rs n hl
    rw [Bool.cond_eq_ite] at h
    split at h
    · rename_i e
      have e : n = ds.length := Nat.eq_of_beq_eq_true e
      subst e
      exact pcall_defer hm (hF f _ hl).1 (fRun_sound hm hF hR s _ _ v h hK)
    · cases h
  · cases h
theorem pcX_sound {X : Fns} (hX : X.ok P) {f : Nat} {ds : List D} {v : V} {ob : Objs} {K : V → Prop} (h : pcX X R L F f ds ob = some v) (hK : K v) : PCall P f (ds.map .d) ob K := by
  unfold pcX at h
  split at h
  · rename_i r hr; cases h; exact (hX.pc _ _ _ _ hr).mono fun v' e => by subst e; exact hK
  · exact pcD_sound hm hF hR h hK
theorem pcR_sound {X : Fns} (hX : X.ok P) {f : Nat} {vs : List V} {v : V} {ob : Objs} (h : pcR X R L F f vs ob = some v) : PCall P f vs ob fun v' => v' = v := by
  unfold pcR at h
  split at h
  · rename_i ds hd
    rw [V.allD_map hd]
    exact pcX_sound hm hF hR hX h rfl
  · split at h
    · rename_i ds hd
      unfold flatO at h
      split at h
      · rename_i v' hv
        rw [Bool.cond_eq_ite] at h
        split at h
        · rename_i hfl
          cases h
          exact PCall.borrow hd (pcX_sound hm hF hR hX hv ⟨hfl, rfl⟩)
        · cases h
      · cases h
    · cases h
theorem acR_sound {f : Nat} {vs : List V} {o : Out} {ob b : Objs} (h : acR R L F f vs ob = some (o, b)) : ACall P f vs ob fun o' b' => o' = o ∧ b' = b := by
  unfold acR at h
  split at h
  · rename_i s rs n hl
    rw [Bool.cond_eq_ite] at h
    split at h
    · rename_i e
      have e : n = vs.length := Nat.eq_of_beq_eq_true e
      subst e
      exact acall_walk hm (hF f _ hl).1 (S.run_sound (L := L) hR s _ _ _ (callR_sound h ⟨rfl, rfl⟩))
    · cases h
  · split at h
    · rename_i ds hd
      rw [Option.map_eq_some_iff] at h
      obtain ⟨v, hv, e⟩ := h
      cases e
      rw [V.allD_map hd]
      exact PCall.acall (pcD_sound hm hF hR hv ⟨rfl, rfl⟩)
    · cases h
  · cases h
end
theorem fns_ca {p : Program} {F : FT} (hF : FT.ok p F) (f : Nat) (h : (lookF F f).isSome = true) : callable p f = true := by
  obtain ⟨x, hx⟩ := Option.isSome_iff_exists.1 h
  exact (hF f x hx).2
theorem fns_ok {P : Prg} {L : Nat} {F : FT} {X : Fns} (hm : P.p.follows .mixedOrders = true) (hF : FT.ok P.p F) (hX : X.ok P) : ∀ n, (fns L F X n).ok P
  | 0 => hX
  | n + 1 => by
    refine ⟨fun f vs ob o b h => ?_, fun f vs ob v h => ?_, fun f h => ?_, fun g x h => hX.gl g x h⟩
    · simp only [fns] at h
      split at h
      · rename_i r hr; cases h; exact hX.call _ _ _ _ _ hr
      · exact acR_sound hm hF (fns_ok hm hF hX n) h
    · simp only [fns] at h
      exact pcR_sound hm hF (fns_ok hm hF hX n) hX h
    · simp only [fns, Bool.or_eq_true] at h
      rcases h with h | h
      · exact fns_ca hF f h
      · exact hX.ca f h
def noFns : Fns := ⟨fun _ _ _ => none, fun _ _ _ => none, fun _ => false, fun _ => none⟩
theorem noFns_ok {P : Prg} : noFns.ok P := ⟨fun _ _ _ _ _ h => (by cases h), fun _ _ _ _ h => (by cases h), fun _ h => (by cases h), fun _ _ h => (by cases h)⟩
end Go.Ab
/- The table of the functions' texts for the evaluator, written by a program; that it is right is checked by the kernel. No condition. -/
namespace Go.Proofs.YtanpgmgkmfckaaaGreatDoor
open Go Go.Ab
set_option maxRecDepth 100000
def tab1 : FT := [(100, .pl ir100 [.t 2] 1),
  (8, .pl ir8 [.t 0] 0),
  (11, .pl ir11 [.t 4] 2),
  (13, .pl ir13 [.t 2, .t 3] 1),
  (17, .pl ir17 [.t 4] 2),
  (28, .pl ir28 [.t 4] 2),
  (30, .pl ir30 [.t 4] 2),
  (33, .pl ir33 [.t 2] 1),
  (34, .pl ir34 [] 2),
  (48, .pl ir48 [.t 4] 2),
  (49, .pl ir49 [.t 4] 2),
  (50, .pl ir50 [.t 6] 3),
  (52, .pl ir52 [.t 6] 3),
  (53, .pl ir53 [.t 4] 2),
  (54, .pl ir54 [.t 6] 3),
  (56, .pl ir56 [.t 6] 3),
  (99, .pl ir99 [.t 6] 3),
  (101, .pl ir101 [.t 6] 3),
  (103, .pl ir103 [.t 6] 3),
  (105, .pl ir105 [.t 6] 3),
  (106, .pl ir106 [.t 2] 1),
  (107, .pl ir107 [.t 6] 3),
  (109, .pl ir109 [.t 6] 3),
  (128, .pl ir128 [.t 4] 2),
  (129, .pl ir129 [.t 4] 2),
  (130, .pl ir130 [.t 4] 2)]
theorem tab1_ok : FT.ok Tryz.prog tab1 :=
  FT.ok_cons ok100 (by kernel_rfl)
  (FT.ok_cons ok8 (by kernel_rfl)
  (FT.ok_cons ok11 (by kernel_rfl)
  (FT.ok_cons ok13 (by kernel_rfl)
  (FT.ok_cons ok17 (by kernel_rfl)
  (FT.ok_cons ok28 (by kernel_rfl)
  (FT.ok_cons ok30 (by kernel_rfl)
  (FT.ok_cons ok33 (by kernel_rfl)
  (FT.ok_cons ok34 (by kernel_rfl)
  (FT.ok_cons ok48 (by kernel_rfl)
  (FT.ok_cons ok49 (by kernel_rfl)
  (FT.ok_cons ok50 (by kernel_rfl)
  (FT.ok_cons ok52 (by kernel_rfl)
  (FT.ok_cons ok53 (by kernel_rfl)
  (FT.ok_cons ok54 (by kernel_rfl)
  (FT.ok_cons ok56 (by kernel_rfl)
  (FT.ok_cons ok99 (by kernel_rfl)
  (FT.ok_cons ok101 (by kernel_rfl)
  (FT.ok_cons ok103 (by kernel_rfl)
  (FT.ok_cons ok105 (by kernel_rfl)
  (FT.ok_cons ok106 (by kernel_rfl)
  (FT.ok_cons ok107 (by kernel_rfl)
  (FT.ok_cons ok109 (by kernel_rfl)
  (FT.ok_cons ok128 (by kernel_rfl)
  (FT.ok_cons ok129 (by kernel_rfl)
  (FT.ok_cons ok130 (by kernel_rfl)
  (FT.ok_nil))))))))))))))))))))))))))
end Go.Proofs.YtanpgmgkmfckaaaGreatDoor
/- The law's own examples hold (sane). Condition: the program is the seat's; its package variables are laid. -/
namespace Go.Sx
open Go Go.Ab Go.Lx
def parseF (s : B) : V := if s.length > 65536 then .tup [.d zeroS, .d (.int .i64 0), .d (.int .i64 2)] else match lexF s.length s 0 with
  | .err e => .tup [.d zeroS, .d (.int .i64 e), .d (.int .i64 90)]
  | .ok l => parseW s.length (parseR l)
theorem parseF_eq (s : B) : parseF s = parseV s := by
  have e := lexF_eq s.length s 0 (Nat.le_refl _)
  unfold parseF parseV
  simp only [e]
  all_goals (cases lexR s 0 <;> rfl)
def decT : D → Option Tok
  | .agg [.int .i64 k, .str t, .int .i64 n, .int .i64 a] => some ⟨k, t, n, a⟩
  | _ => none
def decTs : List D → Option (List Tok)
  | [] => some []
  | x :: r => match decT x, decTs r with
    | some t, some l => some (t :: l)
    | _, _ => none
theorem decT_eq {x : D} {t : Tok} (h : decT x = some t) : x = t.enc := by
  unfold decT at h
  split at h
  · cases h; rfl
  · cases h
theorem decTs_eq : ∀ {xs : List D} {l : List Tok}, decTs xs = some l → xs = l.map Tok.enc
  | [], l, h => by cases h; rfl
  | x :: r, l, h => by
    unfold decTs at h
    split at h
    · rename_i t l' h1 h2
      cases h
      rw [decT_eq h1, decTs_eq h2]; rfl
    · cases h
def textX : D → Option V
  | .list 4 xs => match decTs xs with
    | some l => if l.length ≤ 100000 then some (textV l) else none
    | none => none
  | _ => none
end Go.Sx
namespace Go.Proofs.YtanpgmgkmfckaaaGreatDoor
open Go Go.Ab Go.Lx Go.Sx
set_option maxRecDepth 100000
def xpc (f : Nat) (vs : List V) : Option V := match vs with
  | [.d (.str s)] => bif Nat.beq f 9 then some (parseF s) else none
  | [.d x] => bif Nat.beq f 38 then textX x else none
  | _ => none
def xgl (g : Nat) : Option D :=
  bif Nat.beq g 0 then some (.agg [.int .i64 2, .int .i64 1000]) else
  bif Nat.beq g 1 then some (.agg [.int .i64 1, .int .i64 255]) else
  bif Nat.beq g 2 then some (.agg [.int .i64 0, .int .i64 32]) else
  bif Nat.beq g 3 then some (.agg [.int .i64 0, .int .i64 9]) else
  bif Nat.beq g 4 then some (.agg [.int .i64 0, .int .i64 1048576]) else none
def x10 : Fns := ⟨fun _ _ _ => none, fun f vs _ => xpc f vs, fun _ => false, xgl⟩
theorem tab1_sane (ob : Objs) : (fns 3000 tab1 x10 30).pc 8 [] ob = some (.d (.bool true)) := by kernel_rfl
section
variable {P : Prg} (hP : P.p = Tryz.prog) (hI : Ivl P) (hG : Pow P)
include hP hI hG
theorem x10_ok : x10.ok P := by
  refine ⟨fun _ _ _ _ _ h => (by cases h), fun f vs ob v h => ?_, fun _ h => (by cases h), fun g x h => ?_⟩
  · simp only [x10] at h
    unfold xpc at h
    split at h
    · rename_i s
      rw [Bool.cond_eq_ite] at h
      split at h
      · rename_i e
        cases h
        rw [Nat.eq_of_beq_eq_true e, parseF_eq]
        exact c_Parse hP hI s rfl
      · cases h
    · rename_i x _
      rw [Bool.cond_eq_ite] at h
      split at h
      · rename_i e
        rw [Nat.eq_of_beq_eq_true e]
        unfold textX at h
        split at h
        · rename_i xs
          split at h
          · rename_i l hl
            split at h
            · rename_i h2
              cases h
              rw [decTs_eq hl]
              exact c_Text hP hG (l := l) (.inl rfl) h2 rfl
            · cases h
          · cases h
        · cases h
      · cases h
    · cases h
  · simp only [x10, xgl, Bool.cond_eq_ite] at h
    split at h
    · rename_i e; cases h; rw [Nat.eq_of_beq_eq_true e]; exact hI.factors
    split at h
    · rename_i e; cases h; rw [Nat.eq_of_beq_eq_true e]; exact hI.editions
    split at h
    · rename_i e; cases h; rw [Nat.eq_of_beq_eq_true e]; exact hI.mosts
    split at h
    · rename_i e; cases h; rw [Nat.eq_of_beq_eq_true e]; exact hI.weights
    split at h
    · rename_i e; cases h; rw [Nat.eq_of_beq_eq_true e]; exact hI.anyN
    · cases h
theorem c_sane {ob : Objs} {K : V → Prop} (h : K (.d (.bool true))) : PCall P 8 [] ob K := by
  have h1 := (fns_ok (P := P) (L := 3000) (F := tab1) (by rw [hP]; exact mixed) (by rw [hP]; exact tab1_ok) (x10_ok hP hI hG) 30).pc _ _ ob _ (tab1_sane ob)
  refine h1.mono fun v e => ?_
  subst e; exact h
end
end Go.Proofs.YtanpgmgkmfckaaaGreatDoor
/- Plain laws of the lexer: shifting, joining. No program. -/
namespace Go.Lx
open Go Go.Ab
theorem tw_le_len (p : UInt8 → Bool) (r : List UInt8) : (r.takeWhile p).length ≤ r.length := (List.takeWhile_prefix p).length_le
theorem stp_skip {c : UInt8} {r : List UInt8} {n : Nat} (h : stp c r = .skip n) : n ≤ r.length := by
  unfold stp at h
  have := tw_le_len lineB r
  (repeat' split at h) <;> (first | (cases h; omega) | cases h)
theorem stp_tok {c : UInt8} {r : List UInt8} {k m : Int} {t : List UInt8} {n : Nat} (h : stp c r = .tok k t m n) : n ≤ r.length := by
  unfold stp at h
  have h1 := tw_le_len partB r
  have h2 := tw_le_len digitB r
  (repeat' split at h) <;> (first | (cases h; omega) | cases h)
theorem lexR_skip {c : UInt8} {r : List UInt8} {n off : Nat} (h : stp c r = .skip n) : lexR (c :: r) off = lexR (r.drop n) (off + n + 1) := by
  rw [lexR, h]
theorem lexR_tok {c : UInt8} {r : List UInt8} {k m : Int} {t : List UInt8} {n off : Nat} (h : stp c r = .tok k t m n) : lexR (c :: r) off = addT ⟨k, t, m, off⟩ (lexR (r.drop n) (off + n + 1)) := by
  rw [lexR, h]
theorem lexR_err {c : UInt8} {r : List UInt8} {off : Nat} (h : stp c r = .err) : lexR (c :: r) off = .err off := by
  rw [lexR, h]
theorem lexR_nil' (off : Nat) : lexR [] off = .ok [] := by rw [lexR]
theorem lex_ind {M : List UInt8 → Nat → Prop} (h0 : ∀ off, M [] off)
    (h1 : ∀ c r n off, stp c r = .skip n → n ≤ r.length → M (r.drop n) (off + n + 1) → M (c :: r) off)
    (h2 : ∀ c r k t m n off, stp c r = .tok k t m n → n ≤ r.length → M (r.drop n) (off + n + 1) → M (c :: r) off)
    (h3 : ∀ c r off, stp c r = .err → M (c :: r) off) : ∀ s off, M s off := by
  have key : ∀ N s off, s.length ≤ N → M s off := by
    intro N
    induction N with
    | zero =>
      intro s off h
      have : s = [] := List.length_eq_zero_iff.1 (by omega)
      subst this; exact h0 off
    | succ N ih =>
      intro s off h
      cases s with
      | nil => exact h0 off
      | cons c r =>
        simp at h
        have hd : ∀ n, (r.drop n).length ≤ N := fun n => by simp; omega
        cases hs : stp c r with
        | skip n => exact h1 c r n off hs (stp_skip hs) (ih _ _ (hd n))
        | tok k t m n => exact h2 c r k t m n off hs (stp_tok hs) (ih _ _ (hd n))
        | err => exact h3 c r off hs
  exact fun s off => key _ s off (Nat.le_refl _)
def shT (d : Nat) (t : Tok) : Tok := ⟨t.kind, t.text, t.n, t.at_ + d⟩
def shR (d : Nat) : Res → Res
  | .ok l => .ok (l.map (shT d))
  | .err e => .err (e + d)
theorem lexR_shift (d : Nat) : ∀ s off, lexR s (off + d) = shR d (lexR s off) := by
  apply lex_ind
  · intro off; simp [lexR_nil', shR]
  · intro c r n off h _ ih
    rw [lexR_skip h, lexR_skip h, ← ih]
    congr 1; omega
  · intro c r k t m n off h _ ih
    rw [lexR_tok h, lexR_tok h]
    have : off + d + n + 1 = off + n + 1 + d := by omega
    rw [this, ih]
    cases lexR (r.drop n) (off + n + 1) with
    | ok l => simp [shR, addT, shT]
    | err e => simp [shR, addT]
  · intro c r off h
    rw [lexR_err h, lexR_err h]; rfl
theorem takeWhile_stop (p : UInt8 → Bool) {z : UInt8} (hz : p z = false) : ∀ (r b : List UInt8), (r ++ z :: b).takeWhile p = r.takeWhile p
  | [], b => by simp [List.takeWhile, hz]
  | c :: r, b => by
    simp only [List.cons_append, List.takeWhile_cons, takeWhile_stop p hz r b]
theorem stp_nl (c : UInt8) (r b : List UInt8) : stp c (r ++ 10 :: b) = stp c r := by
  have h1 : (r ++ 10 :: b).takeWhile partB = r.takeWhile partB := takeWhile_stop _ (by decide) r b
  have h2 : (r ++ 10 :: b).takeWhile digitB = r.takeWhile digitB := takeWhile_stop _ (by decide) r b
  have h3 : (r ++ 10 :: b).takeWhile lineB = r.takeWhile lineB := takeWhile_stop _ (by decide) r b
  have h4 : ((r ++ 10 :: b).head? = some 47) = (r.head? = some 47) := by cases r <;> simp
  unfold stp
  rw [h1, h2, h3]
  simp only [h4]
theorem lexR_join (b : List UInt8) : ∀ a off, lexR (a ++ 10 :: b) off = match lexR a off with
    | .ok l => appT l (lexR b (off + a.length + 1))
    | .err e => .err e := by
  apply lex_ind
  · intro off
    have hs : stp 10 b = .skip 0 := by simp [stp, spaceB, spaceI]
    rw [lexR_nil', List.nil_append, lexR_skip hs]
    simp [appT_nil]
  · intro c r n off h hn ih
    rw [List.cons_append, lexR_skip h, lexR_skip ((stp_nl c r b).trans h)]
    rw [List.drop_append_of_le_length hn, ih]
    have : off + n + 1 + (r.drop n).length + 1 = off + (c :: r).length + 1 := by simp; omega
    rw [this]
  · intro c r k t m n off h hn ih
    rw [List.cons_append, lexR_tok h, lexR_tok ((stp_nl c r b).trans h)]
    rw [List.drop_append_of_le_length hn, ih]
    have : off + n + 1 + (r.drop n).length + 1 = off + (c :: r).length + 1 := by simp; omega
    rw [this]
    cases lexR (r.drop n) (off + n + 1) with
    | ok l => cases lexR b (off + (c :: r).length + 1) <;> simp [addT, appT]
    | err e => simp [addT]
  · intro c r off h
    rw [List.cons_append, lexR_err h, lexR_err ((stp_nl c r b).trans h)]
theorem takeWhile_lt (p : UInt8 → Bool) : ∀ (r x : List UInt8), (r.takeWhile p).length < r.length → (r ++ x).takeWhile p = r.takeWhile p
  | [], x, h => by simp at h
  | c :: r, x, h => by
    simp only [List.cons_append, List.takeWhile_cons] at h ⊢
    split
    · rename_i hc
      rw [hc] at h
      simp at h
      rw [takeWhile_lt p r x h]
    · rfl
theorem takeWhile_take' (p : UInt8 → Bool) : ∀ (r : List UInt8) (j : Nat), (r.takeWhile p).length ≤ j → (r.take j).takeWhile p = r.takeWhile p
  | [], j, _ => by simp
  | c :: r, 0, h => by
    simp only [List.takeWhile_cons] at h ⊢
    split at h
    · simp at h
    · rename_i hc; simp [hc]
  | c :: r, j + 1, h => by
    simp only [List.take_succ_cons, List.takeWhile_cons] at h ⊢
    split
    · rename_i hc
      rw [hc] at h
      simp at h
      rw [takeWhile_take' p r j h]
    · rfl
def comB (c : UInt8) (r : List UInt8) : Prop := c = 47 ∧ r.head? = some 47
theorem stp_com {c : UInt8} {r : List UInt8} (h : comB c r) : stp c r = .skip (r.takeWhile lineB).length := by
  obtain ⟨rfl, h⟩ := h
  simp [stp, h, spaceB, spaceI]
theorem stp_sp {c : UInt8} {r more : List UInt8} (h : (r.takeWhile lineB).length < r.length ∨ ¬ comB c r) : stp c (r ++ 32 :: more) = stp c r := by
  have h1 : (r ++ 32 :: more).takeWhile partB = r.takeWhile partB := takeWhile_stop _ (by decide) r more
  have h2 : (r ++ 32 :: more).takeWhile digitB = r.takeWhile digitB := takeWhile_stop _ (by decide) r more
  have h4 : ((r ++ 32 :: more).head? = some 47) = (r.head? = some 47) := by cases r <;> simp
  unfold stp
  rw [h1, h2]
  simp only [h4]
  rcases h with h | h
  · rw [takeWhile_lt _ _ _ h]
  · have hf : ¬ (c = 47 ∧ r.head? = some 47) := h
    simp only [if_neg hf]
theorem lexR_more (more : List UInt8) : ∀ s off, ∀ e, lexR s off = .err e → lexR (s ++ 32 :: more) off = .err e := by
  apply lex_ind
  · intro off e h; rw [lexR_nil'] at h; cases h
  · intro c r n off h hn ih e he
    rw [lexR_skip h] at he
    have hs : stp c (r ++ 32 :: more) = .skip n := by
      rw [← h]
      apply stp_sp
      by_cases hc : comB c r
      · left
        rw [stp_com hc] at h
        cases h
        rcases Nat.lt_or_ge (r.takeWhile lineB).length r.length with h1 | h1
        · exact h1
        · rw [List.drop_of_length_le h1, lexR_nil'] at he; cases he
      · exact .inr hc
    rw [List.cons_append, lexR_skip hs, List.drop_append_of_le_length hn]
    exact ih e he
  · intro c r k t m n off h hn ih e he
    rw [lexR_tok h] at he
    have hs : stp c (r ++ 32 :: more) = .tok k t m n := by
      rw [← h]
      exact stp_sp (.inr fun hc => by rw [stp_com hc] at h; cases h)
    rw [List.cons_append, lexR_tok hs, List.drop_append_of_le_length hn]
    cases hr : lexR (r.drop n) (off + n + 1) with
    | ok l => rw [hr] at he; cases he
    | err e' =>
      rw [hr] at he
      rw [ih e' hr]; exact he
  · intro c r off h e he
    rw [lexR_err h] at he
    have hs : stp c (r ++ 32 :: more) = .err := by
      rw [← h]
      exact stp_sp (.inr fun hc => by rw [stp_com hc] at h; cases h)
    rw [List.cons_append, lexR_err hs]; exact he
theorem stp_cut {c : UInt8} {r : List UInt8} {j n : Nat} (hn : n ≤ j) (h : stp c r = .skip n ∨ ∃ k t m, stp c r = .tok k t m n) : stp c (r.take j) = stp c r := by
  have hh : ¬ comB c r → ¬ (c = 47 ∧ (r.take j).head? = some 47) := fun hc ⟨e1, e2⟩ => hc ⟨e1, by
    cases r with
    | nil => simp at e2
    | cons a r => cases j with
      | zero => simp at e2
      | succ j => simpa using e2⟩
  by_cases hc : comB c r
  · have hs := stp_com hc
    have hn' : (r.takeWhile lineB).length = n := by
      rcases h with h | ⟨_, _, _, h⟩
      · rw [hs] at h; cases h; rfl
      · rw [hs] at h; cases h
    have hc' : comB c (r.take j) := by
      refine ⟨hc.1, ?_⟩
      cases r with
      | nil => simpa using hc.2
      | cons a r =>
        have ha : a = 47 := by simpa using hc.2
        subst ha
        have : lineB 47 = true := by decide
        simp [List.takeWhile_cons, this] at hn'
        cases j with
        | zero => omega
        | succ j => simp
    rw [hs, stp_com hc', takeWhile_take' _ _ _ (by omega)]
  · have hf : ¬ (c = 47 ∧ r.head? = some 47) := hc
    unfold stp at h ⊢
    rw [if_neg (hh hc)]
    rw [if_neg hf] at h ⊢
    split
    · rfl
    · rename_i h1
      rw [if_neg h1] at h
      split
      · rename_i h2
        rw [if_pos h2] at h
        split at h
        · simp at h
          obtain ⟨_, _, _, _, _, _, h⟩ := h
          rw [takeWhile_take' _ _ _ (by omega)]
        · simp at h
      · rename_i h2
        rw [if_neg h2] at h
        split
        · rename_i h3
          rw [if_pos h3] at h
          split at h
          · simp at h
            obtain ⟨_, _, _, _, _, _, h⟩ := h
            rename_i h4
            rw [takeWhile_take' _ _ _ (by omega), h4]
          · simp at h
        · rfl
theorem lexR_wrong : ∀ s off, ∀ e, lexR s off = .err e → off ≤ e ∧ e - off < s.length ∧ (∃ l, lexR (s.take (e - off)) off = .ok l) ∧ ∀ o, lexR (s.drop (e - off)) o = .err o := by
  apply lex_ind
  · intro off e h; rw [lexR_nil'] at h; cases h
  · intro c r n off h hn ih e he
    rw [lexR_skip h] at he
    obtain ⟨h1, h2, ⟨l, h3⟩, h4⟩ := ih e he
    obtain ⟨m, hm⟩ : ∃ m, e = off + n + 1 + m := ⟨e - (off + n + 1), by omega⟩
    subst hm
    have e1 : off + n + 1 + m - off = m + n + 1 := by omega
    have e2 : off + n + 1 + m - (off + n + 1) = m := by omega
    rw [e2] at h2 h3 h4
    rw [e1]
    simp at h2
    refine ⟨by omega, by simp; omega, ⟨l, ?_⟩, fun o => ?_⟩
    · rw [List.take_succ_cons, lexR_skip ((stp_cut (by omega) (.inl h)).trans h), List.drop_take]
      simpa using h3
    · rw [List.drop_succ_cons, Nat.add_comm, ← List.drop_drop]; exact h4 o
  · intro c r k t m' n off h hn ih e he
    rw [lexR_tok h] at he
    cases hr : lexR (r.drop n) (off + n + 1) with
    | ok l => rw [hr] at he; cases he
    | err e' =>
      rw [hr] at he
      obtain rfl : e' = e := by simpa [addT] using he
      obtain ⟨h1, h2, ⟨l, h3⟩, h4⟩ := ih e' hr
      obtain ⟨m, hm⟩ : ∃ m, e' = off + n + 1 + m := ⟨e' - (off + n + 1), by omega⟩
      subst hm
      have e1 : off + n + 1 + m - off = m + n + 1 := by omega
      have e2 : off + n + 1 + m - (off + n + 1) = m := by omega
      rw [e2] at h2 h3 h4
      rw [e1]
      simp at h2
      refine ⟨by omega, by simp; omega, ⟨⟨k, t, m', off⟩ :: l, ?_⟩, fun o => ?_⟩
      · rw [List.take_succ_cons, lexR_tok ((stp_cut (by omega) (.inr ⟨_, _, _, h⟩)).trans h), List.drop_take]
        have : m + n - n = m := by omega
        rw [this, h3]; rfl
      · rw [List.drop_succ_cons, Nat.add_comm, ← List.drop_drop]; exact h4 o
  · intro c r off h e he
    rw [lexR_err h] at he
    cases he
    refine ⟨Nat.le_refl _, by simp, ⟨[], by simp [lexR_nil']⟩, fun o => ?_⟩
    simp only [Nat.sub_self, List.drop_zero]
    exact lexR_err h
end Go.Lx
/- Plain laws for SyntaxPlaces: a source cut at a token's place; which errors there are. No program. -/
namespace Go.Sx
open Go Go.Ab Go.Lx
theorem lex_cut : ∀ s off, ∀ l, lexR s off = .ok l → ∀ pre t post, l = pre ++ t :: post → ∃ m : Nat, t.at_ = ((off + m : Nat) : Int) ∧ m < s.length ∧ lexR (s.take m) off = .ok pre := by
  apply lex_ind
  · intro off l h pre t post e
    rw [lexR_nil'] at h
    cases h
    simp at e
  · intro c r n off h hn ih l hl pre t post e
    rw [lexR_skip h] at hl
    obtain ⟨m, h1, h2, h3⟩ := ih l hl pre t post e
    simp at h2
    refine ⟨m + n + 1, by omega, by simp; omega, ?_⟩
    rw [List.take_succ_cons, lexR_skip ((stp_cut (by omega) (.inl h)).trans h), List.drop_take]
    simpa using h3
  · intro c r k tt mm n off h hn ih l hl pre t post e
    rw [lexR_tok h] at hl
    cases hr : lexR (r.drop n) (off + n + 1) with
    | err e => rw [hr] at hl; cases hl
    | ok l' =>
      rw [hr] at hl
      simp only [addT, Res.ok.injEq] at hl
      subst hl
      cases pre with
      | nil =>
        simp only [List.nil_append, List.cons.injEq] at e
        refine ⟨0, by rw [← e.1]; simp, by simp, by rw [List.take_zero, lexR_nil']⟩
      | cons x pre =>
        simp only [List.cons_append, List.cons.injEq] at e
        obtain ⟨m, h1, h2, h3⟩ := ih l' hr pre t post e.2
        simp at h2
        refine ⟨m + n + 1, by omega, by simp; omega, ?_⟩
        rw [List.take_succ_cons, lexR_tok ((stp_cut (by omega) (.inr ⟨_, _, _, h⟩)).trans h), List.drop_take]
        simp only [Nat.add_sub_cancel, h3, addT, e.1]
  · intro c r off h l hl; rw [lexR_err h] at hl; cases hl
theorem lex_len : ∀ s off, ∀ l, lexR s off = .ok l → l.length ≤ s.length := by
  apply lex_ind
  · intro off l h; rw [lexR_nil'] at h; cases h; simp
  · intro c r n off h hn ih l hl
    rw [lexR_skip h] at hl
    have := ih l hl
    simp at this ⊢; omega
  · intro c r k t m n off h hn ih l hl
    rw [lexR_tok h] at hl
    cases hr : lexR (r.drop n) (off + n + 1) with
    | err e => rw [hr] at hl; cases hl
    | ok l' =>
      rw [hr] at hl
      simp only [addT, Res.ok.injEq] at hl
      subst hl
      have := ih l' hr
      simp at this ⊢; omega
  · intro c r off h l hl; rw [lexR_err h] at hl; cases hl
def Errs {α : Type} (m : M α) : Prop := ∀ ts r e, m ts = .err r e → e = 2 ∨ e = 100
section
variable {α β : Type}
theorem Errs.pure (a : α) : Errs (pure a : M α) := fun _ _ _ h => by cases h
theorem Errs.fail : Errs (fail 100 : M α) := fun _ _ _ h => by cases h; exact .inr rfl
theorem Errs.bind {m : M α} {f : α → M β} (hm : Errs m) (hf : ∀ a, Errs (f a)) : Errs (m >>= f) := fun ts r e h => by
  rw [bind_eq] at h
  cases hc : m ts with
  | ok a r1 => rw [hc] at h; exact hf a _ _ _ h
  | err r1 x => rw [hc] at h; cases h; exact hm _ _ _ hc
theorem Errs.bind' {m : M α} {f : α → M β} (hm : Errs m) (hf : ∀ a ts r, m ts = .ok a r → Errs (f a)) : Errs (m >>= f) := fun ts r e h => by
  rw [bind_eq] at h
  cases hc : m ts with
  | ok a r1 => rw [hc] at h; exact hf a _ _ hc _ _ _ h
  | err r1 x => rw [hc] at h; cases h; exact hm _ _ _ hc
theorem Errs.ite {c : Prop} [Decidable c] {a b : M α} (ha : Errs a) (hb : Errs b) : Errs (if c then a else b) := by split <;> assumption
theorem Errs.ifM {c : List Tok → Bool} {a b : M α} (ha : Errs a) (hb : Errs b) : Errs (ifM c a b) := fun ts r e h => by
  simp only [Sx.ifM] at h
  split at h
  · exact ha _ _ _ h
  · exact hb _ _ _ h
end
theorem e_take (k : Int) (t : B) : Errs (takeM k t) := fun ts r e h => by
  simp only [takeM] at h
  split at h
  · cases h
  · cases h; exact .inr rfl
theorem e_name : Errs nameM := (e_take _ _).bind fun _ => .pure _
theorem e_word (t : B) : Errs (wordM t) := (e_take _ _).bind fun _ => .pure _
theorem e_sign (t : B) : Errs (signM t) := (e_take _ _).bind fun _ => .pure _
theorem e_accept (k : Int) (t : B) : Errs (acceptM k t) := fun ts r e h => by
  simp only [acceptM] at h
  split at h <;> cases h
theorem e_number (lo hi : Int) : Errs (numberM lo hi) := fun ts r e h => by
  simp only [numberM] at h
  split at h
  · cases h
  · cases h; exact .inr rfl
theorem e_room (a b : Nat) : Errs (roomM a b) := fun ts r e h => by
  simp only [roomM] at h
  split at h
  · cases h; exact .inl rfl
  · cases h
theorem e_list {α : Type} {c : List Tok → Bool} {read : M α} (hr : Errs read) : ∀ n, Errs (listM c read n)
  | 0 => fun ts r e h => by
    simp only [listM] at h
    split at h
    · cases h; exact .inl rfl
    · cases h
  | n + 1 => fun ts r e h => by
    simp only [listM] at h
    split at h
    · exact (hr.bind fun a => (e_list hr n).bind fun l => Errs.pure (a :: l)) ts r e h
    · cases h
theorem e_path : Errs pathM := e_name.bind fun _ => (e_sign _).bind fun _ => e_name.bind fun _ => .pure _
theorem e_term : Errs termM := fun ts r e h => by
  simp only [termM] at h
  split at h
  · exact ((e_number _ _).bind fun _ => Errs.pure _) ts r e h
  · exact (e_path.bind fun _ => Errs.pure _) ts r e h
theorem e_from : Errs fromM := (e_word _).bind fun _ => e_name.bind fun _ => e_name.bind fun _ => (e_accept _ _).bind fun _ => .ite (e_path.bind fun _ => (e_sign _).bind fun _ => .pure _) ((e_sign _).bind fun _ => .pure _)
theorem e_op : Errs opM := (e_accept _ _).bind fun _ => .ite (.pure _) ((e_accept _ _).bind fun _ => .ite ((e_accept _ _).bind fun _ => .pure _) ((e_sign _).bind fun _ => (e_sign _).bind fun _ => .pure _))
theorem e_where : Errs whereM := (e_word _).bind fun _ => e_term.bind fun _ => e_op.bind fun _ => e_term.bind fun _ => (e_sign _).bind fun _ => .pure _
theorem e_set : Errs setM := (e_word _).bind fun _ => e_name.bind fun _ => (e_sign _).bind fun _ => e_term.bind fun _ => (e_sign _).bind fun _ => .pure _
theorem e_shift : Errs shiftM := (e_accept _ _).bind fun _ => .ite (e_number _ _) ((e_accept _ _).bind fun _ => .ite ((e_number _ _).bind fun _ => .pure _) (.pure _))
theorem e_move : Errs moveM := e_name.bind fun _ => (e_sign _).bind fun _ => e_name.bind fun _ => e_shift.bind fun _ => (e_sign _).bind fun _ => .pure _
theorem e_may : Errs mayM := (e_word _).bind fun _ => e_path.bind fun _ => (e_sign _).bind fun _ => .pure _
theorem e_rep : ∀ n, Errs (repM n)
  | 0 => .pure _
  | n + 1 => (e_number _ _).bind fun _ => (e_rep n).bind fun _ => .pure _
theorem e_listed (n : Nat) : Errs (listedM n) := e_name.bind fun _ => (e_list ((e_sign _).bind fun _ => e_name) _).bind fun _ => .pure _
theorem e_kind : Errs kindM := (e_accept _ _).bind fun _ => .ite ((e_number _ _).bind fun _ => (e_word _).bind fun _ => (e_number _ _).bind fun _ => (e_accept _ _).bind fun _ => .ite (e_name.bind fun _ => .pure _) (.pure _)) ((e_accept _ _).bind fun _ => .ite (.pure _) ((e_accept _ _).bind fun _ => .ite (.pure _) ((e_accept _ _).bind fun _ => .ite ((e_listed _).bind fun _ => .pure _) .fail)))
theorem e_field : Errs fieldM := (e_word _).bind fun _ => e_name.bind fun _ => (e_sign _).bind fun _ => e_kind.bind fun _ => (e_rep 4).bind fun _ => (e_sign _).bind fun _ => .pure _
theorem e_depend : Errs dependM := (e_word _).bind fun _ => (e_listed _).bind fun _ => (e_word _).bind fun _ => e_name.bind fun _ => (e_sign _).bind fun _ => .pure _
theorem room_ok {a b : Nat} {ts r : List Tok} {u : Unit} (h : roomM a b ts = .ok u r) : a ≠ b := by
  simp only [roomM] at h
  split at h
  · cases h
  · assumption
theorem e_body : ∀ (n : Nat) (s : Schema), s.fields.length ≤ 12 → s.depends.length ≤ 8 → 21 ≤ n + s.fields.length + s.depends.length → Errs (bodyM n s)
  | 0, s, h1, h2, h3 => by omega
  | n + 1, s, h1, h2, h3 => (e_accept _ _).bind fun _ => .ite (.pure _) (.ifM
      ((e_room _ _).bind' fun _ _ _ hr => e_field.bind fun f => e_body n _ (by have := room_ok hr; simp; omega) h2 (by simp; omega))
      (.ifM ((e_room _ _).bind' fun _ _ _ hr => e_depend.bind fun f => e_body n _ h1 (by have := room_ok hr; simp; omega) (by simp; omega)) .fail))
theorem e_issuer (s : Src) : Errs (issuerM s) := (e_room _ _).bind fun _ => (e_word _).bind fun _ => e_name.bind fun _ => (e_sign _).bind fun _ => .pure _
theorem e_unit (s : Src) : Errs (unitM s) := (e_room _ _).bind fun _ => (e_word _).bind fun _ => e_name.bind fun _ => (e_accept _ _).bind fun _ => .ite ((e_number _ _).bind fun _ => e_name.bind fun _ => (e_sign _).bind fun _ => .pure _) ((e_sign _).bind fun _ => .pure _)
theorem e_schema (s : Src) : Errs (schemaM s) := (e_room _ _).bind fun _ => (e_word _).bind fun _ => e_name.bind fun _ => (e_word _).bind fun _ => e_name.bind fun _ => (e_word _).bind fun _ => (e_number _ _).bind fun _ => (e_word _).bind fun _ => (e_rep 4).bind fun _ => (e_sign _).bind fun _ => (e_body _ _ (by simp) (by simp) (by simp)).bind fun _ => .pure _
theorem e_rule (s : Src) : Errs (ruleM s) := (e_room _ _).bind fun _ => (e_word _).bind fun _ => e_name.bind fun _ => (e_sign _).bind fun _ => .ifM ((e_list e_from _).bind fun _ => (e_list e_where _).bind fun _ => (e_list e_set _).bind fun _ => (e_sign _).bind fun _ => .pure _) .fail
theorem e_convert (s : Src) : Errs (convertM s) := (e_room _ _).bind fun _ => (e_word _).bind fun _ => e_name.bind fun _ => (e_word _).bind fun _ => e_name.bind fun _ => (e_sign _).bind fun _ => (e_list e_move _).bind fun _ => (e_sign _).bind fun _ => .pure _
theorem e_purpose (s : Src) : Errs (purposeM s) := (e_room _ _).bind fun _ => (e_word _).bind fun _ => e_name.bind fun _ => (e_sign _).bind fun _ => (e_list e_may _).bind fun _ => (e_word _).bind fun _ => (e_number _ _).bind fun _ => (e_sign _).bind fun _ => (e_sign _).bind fun _ => .pure _
theorem e_defH (t : B) (s : Src) : Errs (defH t s) := by
  unfold defH
  exact .ite (e_issuer s) (.ite (e_unit s) (.ite (e_schema s) (.ite (e_rule s) (.ite (e_convert s) (.ite (e_purpose s) .fail)))))
theorem e_def (s : Src) : Errs (defM s) := fun ts r e h => by
  cases ts with
  | nil => cases h; exact .inr rfl
  | cons x p =>
    simp only [defM] at h
    split at h
    · exact e_defH _ _ _ _ _ h
    · cases h; exact .inr rfl
theorem e_parse : ∀ (n : Nat) (s : Src) (ts r : List Tok) (e : Int), ts.length ≤ n → parseL n s ts = .err r e → e = 2 ∨ e = 100
  | n, s, [], r, e, _, h => by rw [parseL_nil] at h; cases h
  | 0, s, x :: p, r, e, hl, h => by simp at hl
  | n + 1, s, x :: p, r, e, hl, h => by
    rw [parseL_cons, bind_eq] at h
    cases hc : defM s (x :: p) with
    | ok a r1 =>
      rw [hc] at h
      have := eats_def _ _ _ _ hc
      simp only [List.length_cons] at this hl
      exact e_parse n a r1 r e (by omega) h
    | err r1 y => rw [hc] at h; cases h; exact e_def _ _ _ _ hc
theorem places {s : B} {l r : List Tok} {e : Int} (hl : lexR s 0 = .ok l) (h : parseR l = .err r e) : (e = 2 ∨ e = 100) ∧
    ((r = [] ∧ (parseR l).End) ∨ ∃ pre t post m, r = t :: post ∧ l = pre ++ t :: post ∧ t.at_ = (m : Nat) ∧ m < s.length ∧ lexR (s.take m) 0 = .ok pre ∧ (parseR pre).End) := by
  refine ⟨e_parse _ _ _ _ _ (Nat.le_refl _) h, ?_⟩
  cases r with
  | nil => exact .inl ⟨rfl, by rw [h]; rfl⟩
  | cons t post =>
    obtain ⟨pre, rfl⟩ := parse_sfx h
    obtain ⟨m, h1, h2, h3⟩ := lex_cut _ _ _ hl pre t post rfl
    exact .inr ⟨pre, t, post, m, rfl, rfl, by omega, h2, h3, parse_cut h⟩
end Go.Sx
/- The abstract statements that stand for the code of these functions, written by a program from the translation; that they do is checked by the kernel. No condition. -/
namespace Go.Proofs.YtanpgmgkmfckaaaGreatDoor
open Go Go.Ab
set_option maxRecDepth 100000
def ir6_l0 : S := .seq (.rg [] [.op (some 78) (.c (.bin .lss (.t 77) (.t 76)))] [0, 4, 9, 75, 76, 77, 78] [])
 (.seq (.cond (.t 78) (.skip) (.exit 0))
 (.seq (.block 1 (.seq (.rg [] [.op (some 79) (.c (.idxA 4 (.t 75) (.t 77))),
   .op (some 80) (.c (.ld 4 true (.t 79))),
   .op (some 11) (.alloc 44 (.agg [.int .i64 0, .str [], .int .i64 0, .int .i64 0])),
   .op none (.st 4 (.t 11) (.t 80))] [0, 4, 9, 11, 75, 76, 77] [])
 (.rg [] [.op (some 81) (.c (.mv (.t 9))),
   .op (some 82) (.c (.mv (.t 81))),
   .gop 82 false (some 83) (.c (.fldA 3 3 (.t 11))),
   .gop 82 false (some 84) (.c (.ld 1 false (.t 83))),
   .gop 82 false (some 85) (.c (.mv (.t 4))),
   .gop 82 false (some 86) (.c (.bin .eql (.t 84) (.t 85))),
   .op (some 87) (.c (.pick (.t 82) (.bool true) (.t 86))),
   .op (some 9) (.c (.mv (.t 87)))] [0, 4, 9, 75, 76, 77] [])))
 (.rg [] [.op (some 88) (.c (.bin .add (.t 77) (.int .i64 1))),
   .op (some 77) (.c (.mv (.t 88)))] [0, 4, 9, 75, 76, 77] [])))
def ir6 : S := .seq (.rg [] [.op (some 2) (.c (.mv (.bool false)))] [0] [])
 (.seq (.seq (.rg [] [.op (some 15) (.pcall 8 []),
   .op (some 16) (.c (.not (.t 15)))] [0, 16] [])
 (.cond (.t 16) (.seq (.rg [] [.op (some 2) (.c (.mv (.bool false)))] [2] [])
 (.ret)) (.skip)))
 (.seq (.seq (.rg [] [.op (some 17) (.c (.mv (.t 0))),
   .op (some 18) (.c (.lenS (.t 17))),
   .op (some 19) (.c (.bin .gtr (.t 18) (.int .i64 4000)))] [0, 19] [])
 (.cond (.t 19) (.seq (.rg [] [.op (some 2) (.c (.mv (.bool true)))] [2] [])
 (.ret)) (.skip)))
 (.seq (.rg [] [.op (some 21) (.c (.mv (.t 0))),
   .op (some 22) (.pcall 9 [(.t 21)]),
   .op (some 20) (.c (.mv (.t 22))),
   .op (some 23) (.c (.ext (.t 20) 0)),
   .op (some 24) (.c (.ext (.t 20) 1)),
   .op (some 25) (.c (.ext (.t 20) 2)),
   .op (some 3) (.alloc 30 (.agg [.nils, .nils, .nils, .nils, .nils, .nils])),
   .op none (.st 6 (.t 3) (.t 23)),
   .op (some 4) (.c (.mv (.t 24))),
   .op (some 5) (.c (.mv (.t 25)))] [0, 4, 5] [])
 (.seq (.rg [] [.op (some 27) (.c (.mv (.t 0))),
   .op (some 28) (.pcall 15 [(.t 27)]),
   .op (some 26) (.c (.mv (.t 28))),
   .op (some 29) (.c (.ext (.t 26) 0)),
   .op (some 30) (.c (.ext (.t 26) 1)),
   .op (some 31) (.c (.ext (.t 26) 2)),
   .op (some 6) (.c (.mv (.t 29))),
   .op (some 7) (.c (.mv (.t 30))),
   .op (some 8) (.c (.mv (.t 31)))] [0, 4, 5, 6, 8] [])
 (.seq (.seq (.rg [] [.op (some 32) (.c (.mv (.t 8))),
   .op (some 33) (.c (.bin .neq (.t 32) (.int .i64 0))),
   .op (some 34) (.c (.mv (.t 33))),
   .gop 34 false (some 35) (.c (.mv (.t 5))),
   .gop 34 false (some 36) (.c (.bin .eql (.t 35) (.int .i64 0))),
   .op (some 37) (.c (.pick (.t 34) (.bool true) (.t 36)))] [0, 4, 5, 6, 8, 37] [])
 (.cond (.t 37) (.seq (.rg [] [.op (some 38) (.c (.mv (.t 8))),
   .op (some 39) (.c (.bin .eql (.t 38) (.int .i64 0))),
   .op (some 40) (.c (.mv (.t 39))),
   .gop 40 false (some 41) (.c (.mv (.t 5))),
   .gop 40 false (some 42) (.c (.mv (.t 8))),
   .gop 40 false (some 43) (.c (.bin .eql (.t 41) (.t 42))),
   .op (some 44) (.c (.pick (.t 40) (.bool true) (.t 43))),
   .op (some 2) (.c (.mv (.t 44)))] [2] [])
 (.ret)) (.skip)))
 (.seq (.seq (.rg [] [.op (some 45) (.c (.mv (.t 4))),
   .op (some 46) (.c (.bin .lss (.t 45) (.int .i64 0))),
   .op (some 47) (.c (.mv (.t 46))),
   .gop 47 false (some 48) (.c (.mv (.t 4))),
   .gop 47 false (some 49) (.c (.mv (.t 0))),
   .gop 47 false (some 50) (.c (.lenS (.t 49))),
   .gop 47 false (some 51) (.c (.bin .gtr (.t 48) (.t 50))),
   .op (some 52) (.c (.pick (.t 47) (.bool true) (.t 51))),
   .op (some 53) (.c (.mv (.t 52))),
   .gop 53 false (some 54) (.c (.mv (.t 5))),
   .gop 53 false (some 55) (.c (.bin .neq (.t 54) (.int .i64 100))),
   .gop 53 false (some 56) (.c (.mv (.t 55))),
   .gop 56 true (some 57) (.c (.mv (.t 5))),
   .gop 56 true (some 58) (.c (.bin .neq (.t 57) (.int .i64 2))),
   .gop 53 false (some 59) (.c (.pick (.t 56) (.t 58) (.bool false))),
   .op (some 60) (.c (.pick (.t 53) (.bool true) (.t 59))),
   .op (some 61) (.c (.mv (.t 60))),
   .gop 61 false (some 62) (.c (.mv (.t 4))),
   .gop 61 false (some 63) (.c (.mv (.t 0))),
   .gop 61 false (some 64) (.c (.lenS (.t 63))),
   .gop 61 false (some 65) (.c (.bin .eql (.t 62) (.t 64))),
   .gop 61 false (some 66) (.c (.mv (.t 65))),
   .gop 66 true (some 67) (.c (.mv (.t 5))),
   .gop 66 true (some 68) (.c (.bin .neq (.t 67) (.int .i64 100))),
   .gop 61 false (some 69) (.c (.pick (.t 66) (.t 68) (.bool false))),
   .op (some 70) (.c (.pick (.t 61) (.bool true) (.t 69)))] [0, 4, 6, 70] [])
 (.cond (.t 70) (.seq (.rg [] [.op (some 2) (.c (.mv (.bool false)))] [2] [])
 (.ret)) (.skip)))
 (.seq (.rg [] [.op (some 71) (.c (.mv (.t 4))),
   .op (some 72) (.c (.mv (.t 0))),
   .op (some 73) (.c (.lenS (.t 72))),
   .op (some 74) (.c (.bin .eql (.t 71) (.t 73))),
   .op (some 9) (.c (.mv (.t 74)))] [0, 4, 6, 9] [])
 (.seq (.seq (.rg [] [.op (some 75) (.c (.mv (.t 6))),
   .op (some 76) (.c (.lenL (.t 75))),
   .op (some 77) (.c (.mv (.int .i64 0)))] [0, 4, 9, 75, 76, 77] [])
 (.block 0 (.loop [0, 4, 9, 75, 76, 77] ir6_l0)))
 (.seq (.rg [] [.op (some 90) (.c (.mv (.t 0))),
   .op (some 91) (.c (.mv (.t 4))),
   .op (some 92) (.c (.slcS (.t 90) none (some (.t 91)))),
   .op (some 93) (.pcall 9 [(.t 92)]),
   .op (some 89) (.c (.mv (.t 93))),
   .op (some 94) (.c (.ext (.t 89) 0)),
   .op (some 95) (.c (.ext (.t 89) 1)),
   .op (some 96) (.c (.ext (.t 89) 2)),
   .op (some 12) (.alloc 30 (.agg [.nils, .nils, .nils, .nils, .nils, .nils])),
   .op none (.st 6 (.t 12) (.t 94)),
   .op (some 13) (.c (.mv (.t 95))),
   .op (some 14) (.c (.mv (.t 96)))] [4, 9, 13, 14] [])
 (.seq (.rg [] [.op (some 97) (.c (.mv (.t 9))),
   .op (some 98) (.c (.mv (.t 97))),
   .gop 98 true (some 99) (.c (.mv (.t 14))),
   .gop 98 true (some 100) (.c (.bin .eql (.t 99) (.int .i64 0))),
   .gop 98 true (some 101) (.c (.mv (.t 100))),
   .gop 101 false (some 102) (.c (.mv (.t 14))),
   .gop 101 false (some 103) (.c (.bin .eql (.t 102) (.int .i64 100))),
   .gop 101 false (some 104) (.c (.mv (.t 103))),
   .gop 104 true (some 105) (.c (.mv (.t 13))),
   .gop 104 true (some 106) (.c (.mv (.t 4))),
   .gop 104 true (some 107) (.c (.bin .eql (.t 105) (.t 106))),
   .gop 101 false (some 108) (.c (.pick (.t 104) (.t 107) (.bool false))),
   .gop 98 true (some 109) (.c (.pick (.t 101) (.bool true) (.t 108))),
   .op (some 110) (.c (.pick (.t 98) (.t 109) (.bool false))),
   .op (some 2) (.c (.mv (.t 110)))] [2] [])
 (.ret)))))))))))
theorem ok6 : fnOk Tryz.prog 6 1 ir6 [.t 2] = true := by kernel_rfl
end Go.Proofs.YtanpgmgkmfckaaaGreatDoor
/- The same statements with their regions folded into expressions, printed by the fold itself; that they are that is checked by the kernel. No condition. -/
namespace Go.Proofs.YtanpgmgkmfckaaaGreatDoor
open Go Go.Ab
set_option maxRecDepth 100000
def lt6_l0 : S2 := .seq (.rg [] [(0, (.a (.t 0))), (4, (.a (.t 4))), (9, (.a (.t 9))), (75, (.a (.t 75))), (76, (.a (.t 76))), (77, (.a (.t 77))), (78, (.b (.bin .lss (.t 0) (.t 1)) (.a (.t 77)) (.a (.t 76))))] [])
 (.seq (.cond (.t 78) (.skip) (.exit 0))
 (.seq (.block 1 (.seq (.rg [.chk [] (.u (.ld 4 true (.t 0)) (.b (.idxA 4 (.t 0) (.t 1)) (.a (.t 75)) (.a (.t 77)))), .lt 80 [] (.u (.ld 4 true (.t 0)) (.b (.idxA 4 (.t 0) (.t 1)) (.a (.t 75)) (.a (.t 77)))), .op (some 11) (.alloc 44 (.agg [(.int .i64 0), (.str []), (.int .i64 0), (.int .i64 0)])), .op none (.st 4 (.t 11) (.t 80))] [(0, (.a (.t 0))), (4, (.a (.t 4))), (9, (.a (.t 9))), (11, (.a (.t 11))), (75, (.a (.t 75))), (76, (.a (.t 76))), (77, (.a (.t 77)))] [])
 (.rg [] [(0, (.a (.t 0))), (4, (.a (.t 4))), (9, (.ite (.a (.t 9)) (.a (.bool true)) (.b (.bin .eql (.t 0) (.t 1)) (.u (.ld 1 false (.t 0)) (.u (.fldA 3 3 (.t 0)) (.a (.t 11)))) (.a (.t 4))))), (75, (.a (.t 75))), (76, (.a (.t 76))), (77, (.a (.t 77)))] [])))
 (.rg [] [(0, (.a (.t 0))), (4, (.a (.t 4))), (9, (.a (.t 9))), (75, (.a (.t 75))), (76, (.a (.t 76))), (77, (.b (.bin .add (.t 0) (.t 1)) (.a (.t 77)) (.a (.int .i64 1))))] [])))
def lt6 : S2 := .seq (.rg [] [(0, (.a (.t 0)))] [])
 (.seq (.seq (.rg [.op (some 15) (.pcall 8 [])] [(0, (.a (.t 0))), (16, (.u (.not (.t 0)) (.a (.t 15))))] [])
 (.cond (.t 16) (.seq (.rg [] [(2, (.a (.bool false)))] [])
 (.ret)) (.skip)))
 (.seq (.seq (.rg [] [(0, (.a (.t 0))), (19, (.b (.bin .gtr (.t 0) (.t 1)) (.u (.lenS (.t 0)) (.a (.t 0))) (.a (.int .i64 4000))))] [])
 (.cond (.t 19) (.seq (.rg [] [(2, (.a (.bool true)))] [])
 (.ret)) (.skip)))
 (.seq (.rg [.lt 21 [] (.a (.t 0)), .op (some 22) (.pcall 9 [(.t 21)]), .chk [] (.u (.ext (.t 0) 2) (.a (.t 22))), .chk [] (.u (.ext (.t 0) 1) (.a (.t 22))), .chk [] (.u (.ext (.t 0) 0) (.a (.t 22))), .op (some 3) (.alloc 30 (.agg [.nils, .nils, .nils, .nils, .nils, .nils])), .lt 23 [] (.u (.ext (.t 0) 0) (.a (.t 22))), .op none (.st 6 (.t 3) (.t 23))] [(0, (.a (.t 0))), (4, (.u (.ext (.t 0) 1) (.a (.t 22)))), (5, (.u (.ext (.t 0) 2) (.a (.t 22))))] [])
 (.seq (.rg [.lt 27 [] (.a (.t 0)), .op (some 28) (.pcall 15 [(.t 27)]), .chk [] (.u (.ext (.t 0) 1) (.a (.t 28)))] [(0, (.a (.t 0))), (4, (.a (.t 4))), (5, (.a (.t 5))), (6, (.u (.ext (.t 0) 0) (.a (.t 28)))), (8, (.u (.ext (.t 0) 2) (.a (.t 28))))] [])
 (.seq (.seq (.rg [] [(0, (.a (.t 0))), (4, (.a (.t 4))), (5, (.a (.t 5))), (6, (.a (.t 6))), (8, (.a (.t 8))), (37, (.ite (.b (.bin .neq (.t 0) (.t 1)) (.a (.t 8)) (.a (.int .i64 0))) (.a (.bool true)) (.b (.bin .eql (.t 0) (.t 1)) (.a (.t 5)) (.a (.int .i64 0)))))] [])
 (.cond (.t 37) (.seq (.rg [] [(2, (.ite (.b (.bin .eql (.t 0) (.t 1)) (.a (.t 8)) (.a (.int .i64 0))) (.a (.bool true)) (.b (.bin .eql (.t 0) (.t 1)) (.a (.t 5)) (.a (.t 8)))))] [])
 (.ret)) (.skip)))
 (.seq (.seq (.rg [] [(0, (.a (.t 0))), (4, (.a (.t 4))), (6, (.a (.t 6))), (70, (.ite (.ite (.ite (.b (.bin .lss (.t 0) (.t 1)) (.a (.t 4)) (.a (.int .i64 0))) (.a (.bool true)) (.b (.bin .gtr (.t 0) (.t 1)) (.a (.t 4)) (.u (.lenS (.t 0)) (.a (.t 0))))) (.a (.bool true)) (.ite (.b (.bin .neq (.t 0) (.t 1)) (.a (.t 5)) (.a (.int .i64 100))) (.b (.bin .neq (.t 0) (.t 1)) (.a (.t 5)) (.a (.int .i64 2))) (.a (.bool false)))) (.a (.bool true)) (.ite (.b (.bin .eql (.t 0) (.t 1)) (.a (.t 4)) (.u (.lenS (.t 0)) (.a (.t 0)))) (.b (.bin .neq (.t 0) (.t 1)) (.a (.t 5)) (.a (.int .i64 100))) (.a (.bool false)))))] [])
 (.cond (.t 70) (.seq (.rg [] [(2, (.a (.bool false)))] [])
 (.ret)) (.skip)))
 (.seq (.rg [] [(0, (.a (.t 0))), (4, (.a (.t 4))), (6, (.a (.t 6))), (9, (.b (.bin .eql (.t 0) (.t 1)) (.a (.t 4)) (.u (.lenS (.t 0)) (.a (.t 0)))))] [])
 (.seq (.seq (.rg [] [(0, (.a (.t 0))), (4, (.a (.t 4))), (9, (.a (.t 9))), (75, (.a (.t 6))), (76, (.u (.lenL (.t 0)) (.a (.t 6)))), (77, (.a (.int .i64 0)))] [])
 (.block 0 (.loop [0, 4, 9, 75, 76, 77] lt6_l0)))
 (.seq (.rg [.chk [] (.b (.slcS (.t 0) none (some (.t 1))) (.a (.t 0)) (.a (.t 4))), .lt 92 [] (.b (.slcS (.t 0) none (some (.t 1))) (.a (.t 0)) (.a (.t 4))), .op (some 93) (.pcall 9 [(.t 92)]), .chk [] (.u (.ext (.t 0) 2) (.a (.t 93))), .chk [] (.u (.ext (.t 0) 1) (.a (.t 93))), .chk [] (.u (.ext (.t 0) 0) (.a (.t 93))), .op (some 12) (.alloc 30 (.agg [.nils, .nils, .nils, .nils, .nils, .nils])), .lt 94 [] (.u (.ext (.t 0) 0) (.a (.t 93))), .op none (.st 6 (.t 12) (.t 94))] [(4, (.a (.t 4))), (9, (.a (.t 9))), (13, (.u (.ext (.t 0) 1) (.a (.t 93)))), (14, (.u (.ext (.t 0) 2) (.a (.t 93))))] [])
 (.seq (.rg [] [(2, (.ite (.a (.t 9)) (.ite (.b (.bin .eql (.t 0) (.t 1)) (.a (.t 14)) (.a (.int .i64 0))) (.a (.bool true)) (.ite (.b (.bin .eql (.t 0) (.t 1)) (.a (.t 14)) (.a (.int .i64 100))) (.b (.bin .eql (.t 0) (.t 1)) (.a (.t 13)) (.a (.t 4))) (.a (.bool false)))) (.a (.bool false))))] [])
 (.ret)))))))))))
theorem lf6 : ir6.lift [] = some lt6 := by kernel_rfl
end Go.Proofs.YtanpgmgkmfckaaaGreatDoor
/- The law SyntaxPlaces. Condition: the program is the seat's; its package variables are laid. -/
namespace Go.Sx
open Go Go.Ab Go.Lx
theorem parseV_cases (s : B) (hs : s.length ≤ 65536) : (∃ e, lexR s 0 = .err e ∧ parseV s = .tup [.d zeroS, .d (.int .i64 e), .d (.int .i64 90)]) ∨
    (∃ l x r, lexR s 0 = .ok l ∧ parseR l = .ok x r ∧ parseV s = .tup [.d x.enc, .d (.int .i64 0), .d (.int .i64 0)]) ∨
    (∃ l r e, lexR s 0 = .ok l ∧ parseR l = .err r e ∧ parseV s = .tup [.d zeroS, .d (.int .i64 (atI s.length r)), .d (.int .i64 (failE r e))]) := by
  unfold parseV
  rw [if_neg (by omega)]
  cases hl : lexR s 0 with
  | err e => exact .inl ⟨e, rfl, rfl⟩
  | ok l =>
    cases hp : parseR l with
    | ok x r => exact .inr (.inl ⟨l, x, r, rfl, hp, by simp only [hp]; rfl⟩)
    | err r e => exact .inr (.inr ⟨l, r, e, rfl, hp, by simp only [hp]; rfl⟩)
theorem places2 {s : B} {l r : List Tok} {e : Int} (hs : s.length ≤ 65536) (hx : lexR s 0 = .ok l) (hp : parseR l = .err r e) :
    ∃ m : Nat, m ≤ s.length ∧ atI s.length r = m ∧ (failE r e = 100 ∨ (failE r e = 2 ∧ m ≠ s.length)) ∧ (m = s.length ∨ ∃ t ∈ l, t.at_ = m) ∧
      ((parseV (s.take m) = .tup [.d zeroS, .d (.int .i64 m), .d (.int .i64 100)]) ∨ ∃ x, parseV (s.take m) = .tup [.d (Src.enc x), .d (.int .i64 0), .d (.int .i64 0)]) := by
  obtain ⟨he, hc⟩ := places hx hp
  rcases hc with ⟨rfl, _⟩ | ⟨pre, t, post, m, rfl, rfl, h1, h2, h3, h4⟩
  · refine ⟨s.length, Nat.le_refl _, rfl, .inl rfl, .inl rfl, .inl ?_⟩
    rw [List.take_length, parseV, if_neg (by omega), hx]
    simp only [hp]
    rfl
  · refine ⟨m, by omega, h1, ?_, .inr ⟨t, by simp, h1⟩, ?_⟩
    · rcases he with rfl | rfl
      · exact .inr ⟨rfl, by omega⟩
      · exact .inl rfl
    · have hlen : (s.take m).length = m := by simp; omega
      rw [parseV, if_neg (by omega), h3]
      cases hq : parseR pre with
      | ok x r =>
        exact .inr ⟨x, by simp only [hq]; rfl⟩
      | err r e' =>
        rw [hq] at h4
        simp only [R.End] at h4
        subst h4
        exact .inl (by simp only [hq, parseW, atI, failE, hlen])
def metB (n m : Int) (l : List Tok) : Bool := m == n || l.any fun t => t.at_ == m
theorem metB_nil (n m : Int) : metB n m [] = (m == n) := by simp [metB]
theorem metB_snoc (n m : Int) (l : List Tok) (t : Tok) : metB n m (l ++ [t]) = (metB n m l || t.at_ == m) := by simp only [metB, List.any_append, List.any_cons, List.any_nil, Bool.or_false, Bool.or_assoc]
theorem src_shape (s : Src) : s.enc.shape = .node [.leaf, .leaf, .leaf, .leaf, .leaf, .leaf] := by simp [Src.enc, D.shape, D.shapes]
theorem zero_shape : zeroS.shape = .node [.leaf, .leaf, .leaf, .leaf, .leaf, .leaf] := by simp [D.shape, D.shapes]
theorem lexV_ok' {s : B} {l : List Tok} (hs : s.length ≤ 65536) (h : lexR s 0 = .ok l) : lexV s = .tup [.d (.list 4 (l.map Tok.enc)), .d (.int .i64 0), .d (.int .i64 0)] := by
  rw [lexV, if_neg (by omega), h]; rfl
theorem lexV_err' {s : B} {e : Nat} (hs : s.length ≤ 65536) (h : lexR s 0 = .err e) : lexV s = .tup [.d .nils, .d (.int .i64 e), .d (.int .i64 90)] := by
  rw [lexV, if_neg (by omega), h]; rfl
end Go.Sx
namespace Go.Proofs.YtanpgmgkmfckaaaGreatDoor
open Go Go.Ab Go.Lx Go.Sx
set_option maxRecDepth 100000
section
variable {P : Prg} (hP : P.p = Tryz.prog) (hI : Ivl P) (hG : Pow P)
include hP hI hG
theorem p_SyntaxPlaces (s : B) {ob : Objs} {K : V → Prop} (h : K (.d (.bool true))) : PCall P 6 [.d (.str s)] ob K := by
  refine pcall_lift hP mixed (ds := [.str s]) ok6 lf6 TOk.nil ?_
  simp [lt6]
  refine c_sane hP hI hG ?_
  simp
  refine ⟨fun hl => h, fun hl => ?_⟩
  have hs : s.length ≤ 65536 := by omega
  refine c_Parse hP hI s ?_
  rcases parseV_cases s hs with ⟨e, hx, hv⟩ | ⟨l, x, r, hx, hp, hv⟩ | ⟨l, r, e, hx, hp, hv⟩
  · rw [hv]
    simp
    refine c_Lex hP s ?_
    rw [lexV_err' hs hx]
    simp
    exact h
  · rw [hv]
    simp [src_shape]
    refine c_Lex hP s ?_
    rw [lexV_ok' hs hx]
    simp
    exact h
  · rw [hv]
    simp
    refine c_Lex hP s ?_
    rw [lexV_ok' hs hx]
    obtain ⟨m, h1, h2, h3, h4, h5⟩ := places2 hs hx hp
    have e0 : failE r e ≠ 0 := by rcases h3 with h3 | ⟨h3, _⟩ <;> omega
    have e1 : ¬ ((¬ failE r e = 100 ∧ ¬ failE r e = 2) ∨ (m : Int) = s.length ∧ ¬ failE r e = 100) := by rcases h3 with h3 | ⟨h3, _⟩ <;> omega
    have hm0 : ¬ (m : Int) < 0 := by omega
    have hm1 : ¬ (s.length : Int) < m := by omega
    have hm2 : (0 : Int) ≤ m := by omega
    have hm3 : (m : Int) ≤ s.length := by omega
    rw [h2]
    simp [e0, hm1, hm3]
    refine ⟨fun h => absurd (by simpa using h) (by simpa using e1), fun _ _ => ?_⟩
    refine ALoop.go (ι := Nat) (fun k => [(0, .d (.str s)), (4, .d (.int .i64 m)), (9, .d (.bool (metB s.length m (l.take k)))), (75, .d (.list 4 (l.map Tok.enc))), (76, .d (.int .i64 l.length)), (77, .d (.int .i64 k))])
      (fun _ => [(0, .box 30 (.d zeroS))]) (fun k => k ≤ l.length) (fun k => l.length - k) 0 (by simp) (by simp [metB_nil]) (by simp) ?_
    intro k hk R rn re rr rp
    have hll := lex_len _ _ _ hx
    by_cases hlt : k < l.length
    · simp [lt6_l0, hlt, Tok.enc]
      have em : metB s.length m (l.take (k + 1)) = (metB s.length m (l.take k) || l[k].at_ == m) := by rw [take_snoc hlt, metB_snoc]
      refine rn [] (k + 1) _ _ (by omega) (by omega) ?_ (by simp [young]) (by simp [young]) (by simp [young])
      simp [em]
      exact IntWalk.i64_in _ (by omega)
    · have hk' : k = l.length := by omega
      subst hk'
      simp [lt6_l0]
      refine re _ _ _ ?_
      have hmet : metB s.length m l = true := by
        rcases h4 with h4 | ⟨t, ht, h4⟩
        · simp [metB, h4]
        · simp only [metB, Bool.or_eq_true, List.any_eq_true, beq_iff_eq]
          exact .inr ⟨t, ht, h4⟩
      simp [hmet, hm1, hm3]
      refine c_Parse hP hI _ ?_
      rcases h5 with h5 | ⟨x, h5⟩
      · rw [h5]
        simp
        exact h
      · rw [h5]
        simp [src_shape]
        exact h
end
end Go.Proofs.YtanpgmgkmfckaaaGreatDoor
