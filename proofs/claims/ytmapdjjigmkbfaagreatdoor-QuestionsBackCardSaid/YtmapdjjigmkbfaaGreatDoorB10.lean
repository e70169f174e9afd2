/- Texts of this claim joined by a program, part 10 of 16; the last is: What the evaluator of the questions' examples knows beside its table. No condition. -/
import Derived.Test.YtmapdjjigmkbfaaGreatDoorB5
import Derived.Test.YtmapdjjigmkbfaaGreatDoorB6
import Derived.Test.YtmapdjjigmkbfaaGreatDoorB9
import Derived.KernelRfl
set_option linter.unusedSimpArgs false
set_option linter.unusedVariables false
set_option linter.unusedSectionVars false
set_option linter.defProp false
/- An evaluator of calls, and that what it yields holds. Over any program; no condition. -/
namespace Go.Ab
open Go

inductive FI where
 | pl (s : S) (rs : List RV) (n : Nat)
 | df (s : FSt) (rs : List RV) (n : Nat)
 | rc (its : List It) (keep : List Nat) (k : Nat) (s : S) (n : Nat)
  | kp (s : S) (rs : List RV) (n : Nat)
def FI.ok (p : Program) (f : Nat) : FI → Bool
 | .pl s rs n => Yf p f n s rs
 | .kp s rs n => Yf p f n s rs
 | .df s rs n => Xrv p f n s rs
 | .rc its _ k s n => Xrk p f n k its s
abbrev FT := List (Nat × FI)
def Xju : FT → Nat → Option FI
 | [],_ => none
 | (j,x) :: r,k => bif Nat.beq j k then some x else Xju r k
def FT.ok (p : Program) (F : FT) : Prop := ∀ f x,Xju F f = some x → FI.ok p f x = true ∧ Xj p f = true
theorem FT.ok_nil {p : Program} : FT.ok p [] := fun f x h => by cases h
theorem FT.ok_cons {p : Program} {f : Nat} {x : FI} {F : FT} (h : FI.ok p f x = true) (hc : Xj p f = true) (hF : FT.ok p F) : FT.ok p ((f,x) :: F) := fun g y hg => by
 simp only [Xju] at hg
 rw [Bool.cond_eq_ite] at hg
 split at hg
 ·rename_i e
  cases hg
  have e : f = g := Nat.eq_of_beq_eq_true e
  subst e
  exact ⟨h,hc⟩
 ·exact hF g y hg

def RV.run (sl : Xb) (ob : Objs) : RV → Option V
 | .t k => some (look sl k)
 | .c k n ag => ldR ob n ag (look sl k)
def Ybg (sl : Xb) (ob : Objs) : List RV → Option (List V)
 | [] => some []
 | x :: r => match x.run sl ob with
  | some v => (Ybg sl ob r).map (v :: ·)
  | none => none
def X3t : List V → Objs → List V × Objs
 | [],ob => ([],ob)
 | v :: r,ob => match V.giv ob v with
  | some (d,ob') => let p := X3t r ob'; (.d d :: p.1,p.2)
  | none => let p := X3t r ob; (v :: p.1,p.2)
def Xbx (n : Nat) (vs : List V) (ob : Objs) : Option Objs :=
 let kp := V.idss vs ++ Ybc ob
 bif !V.mens (young n kp) vs && noMenO (young n kp) (Xy (young n kp) ob) then some (Xy (young n kp) ob) else none
def Ygo (n : Nat) (rs : List RV) (sl : Xb) (ob : Objs) : Option (Out × Objs) := match Ybg sl ob rs with
 | some vs => (Xbx n (X3t vs ob).1 (X3t vs ob).2).map fun b => (.ret (Uc (X3t vs ob).1),b)
 | none => none
def X8g (n : Nat) (rs : List RV) : Rs → Option (Out × Objs)
 | some (.normal,sl,ob) => Ygo n rs sl ob
 | some (.ret,sl,ob) => Ygo n rs sl ob
 | some (.panic v,_,ob) => (Xbx n [v] ob).map fun b => (.panic v,b)
 | _ => none
def X2z (n : Nat) (rs : List RV) (sl : Xb) (ob : Objs) : Option (Out × Objs) := match Ybg sl ob rs with
 | some vs => (Xbx n vs ob).map fun b => (.ret (Uc vs),b)
 | none => none
def Xuj (n : Nat) (rs : List RV) : Rs → Option (Out × Objs)
 | some (.normal,sl,ob) => X2z n rs sl ob
 | some (.ret,sl,ob) => X2z n rs sl ob
 | some (.panic v,_,ob) => (Xbx n [v] ob).map fun b => (.panic v,b)
 | _ => none
def Xjg (rs : List RV) (sl : Xb) (ob : Objs) : Option V := match Ybg sl ob rs with
 | some vs => (V.givs ob vs).map fun p => Uc (p.1.map .d)
 | none => none
def Xx6 (rs : List RV) : Rs → Option V
 | some (.normal,sl,ob) => Xjg rs sl ob
 | some (.ret,sl,ob) => Xjg rs sl ob
 | _ => none

def Yce (R : Fns) (L : Nat) (F : FT) (g : Nat) (vs : List V) (ob : Objs) (rv : Option V) : Option Objs := match Xju F g with
 | some (.rc its keep k s n) => bif Nat.beq n vs.length then
   (match X20 R its ((k,rv.getD (.d .nili)) :: Ju 0 vs) ob with
    | .ok sl ob' => (match s.run R L (Xe sl keep) ob' with
     | some (.normal,_,ob2) => Xbx (fresh ob) [] ob2
     | some (.ret,_,ob2) => Xbx (fresh ob) [] ob2
     | _ => none)
    | _ => none)
  else none
 | _ => none
def V.isIfc : V → Bool
 | .iface _ _ => true
 | .d (.iface _ _) => true
 | _ => false
def X8o (R : Fns) (L : Nat) (F : FT) (g : Nat) (cl : List V) (rs : List RV) : Rs → Option V
 | some (.normal,sl,ob) => (Yce R L F g cl ob none).bind fun ob' => Xjg rs sl ob'
 | some (.ret,sl,ob) => (Yce R L F g cl ob none).bind fun ob' => Xjg rs sl ob'
 | some (.panic v,sl,ob) => bif v.isIfc then (Yce R L F g cl ob (some v)).bind fun ob' => Xjg rs sl ob' else none
 | _ => none
def Ycn (R : Fns) (L : Nat) (F : FT) (rs : List RV) : FSt → Xb → Objs → Option V
 | .pre s r,sl,ob => match s.run R L sl ob with
  | some (.normal,sl',ob') => Ycn R L F rs r sl' ob'
  | some (.ret,sl',ob') => Xjg rs sl' ob'
  | _ => none
 | .dfr its keep k s,sl,ob => match X20 R its sl ob with
  | .ok sl' ob' => (match look (Xe sl' keep) k with
   | .fn g fi ca => bif R.ca g then X8o R L F g (fi ++ ca) rs (s.run R L (Xe sl' keep) ob') else none
   | _ => none)
  | _ => none

def pcD (R : Fns) (L : Nat) (F : FT) (f : Nat) (ds : List D) : Option V := match Xju F f with
 | some (.pl s rs n) => bif Nat.beq n ds.length then Xx6 rs (s.run R L (Ju 0 (ds.map .d)) []) else none
 | some (.df s rs n) => bif Nat.beq n ds.length then Ycn R L F rs s (Ju 0 (ds.map .d)) [] else none
 | _ => none
def Yco (o : Option V) : Option V := match o with
 | some v => bif v.flatR then some v else none
 | none => none
def pcX (X R : Fns) (L : Nat) (F : FT) (f : Nat) (ds : List D) (ob : Objs) : Option V := match X.pc f (ds.map .d) ob with
 | some v => some v
 | none => pcD R L F f ds
def pcR (X R : Fns) (L : Nat) (F : FT) (f : Nat) (vs : List V) (ob : Objs) : Option V := match V.allD vs with
 | some ds => pcX X R L F f ds ob
 | none => match V.toDs ob 12 vs with
  | some ds => Yco (pcX X R L F f ds [])
  | none => none
def acR (R : Fns) (L : Nat) (F : FT) (f : Nat) (vs : List V) (ob : Objs) : Option (Out × Objs) := match Xju F f with
 | some (.pl s rs n) => bif Nat.beq n vs.length then X8g (fresh ob) rs (s.run R L (Ju 0 vs) ob) else none
 | some (.kp s rs n) => bif Nat.beq n vs.length then Xuj (fresh ob) rs (s.run R L (Ju 0 vs) ob) else none
 | some (.df _ _ _) => match V.allD vs with
  | some ds => (pcD R L F f ds).map fun v => (.ret v,ob)
  | none => none
 | _ => none
def fns (L : Nat) (F : FT) (X : Fns) : Nat → Fns
 | 0 => X
 | n + 1 => ⟨fun f vs ob => match X.call f vs ob with
   | some r => some r
   | none => acR (fns L F X n) L F f vs ob,
  fun f vs ob => pcR X (fns L F X n) L F f vs ob,
  fun f => (Xju F f).isSome || X.ca f,X.gl⟩

section
variable {P : Prg} {R : Fns} {L : Nat} {F : FT}
theorem Qz {sl : Xb} {ob : Objs} : ∀ (rs : List RV) (K : List V → Prop) (vs : List V),Ybg sl ob rs = some vs → K vs → Vu sl ob rs K
 | [],K,vs,h,hK => by cases h; exact hK
 | x :: r,K,vs,h,hK => by
  simp only [Ybg] at h
  split at h
  ·rename_i v hv
   rw [Option.map_eq_some_iff] at h
   obtain ⟨l,hl,rfl⟩ := h
   simp only [Vu]
   have hr := Qz r (fun vs => K (v :: vs)) l hl hK
   cases x with
   | t k => simp only [RV.run,Option.some.injEq] at hv; subst hv; exact hr
   | c k n ag =>
    simp only [RV.run] at hv
    simp only [RV.wp]
    have h0 : (C.ld n ag (.t 0)).run [(0,look sl k)] ob = some v := by simpa [C.run,Xvs,Xvc,A.ev,look] using hv
    have h1 := C.run_sound (K := fun v => Vu sl ob r fun vs => K (v :: vs)) h0 hr
    simpa [C.wp,A.ev,look] using h1
  ·cases h
theorem Xbd : ∀ (vs : List V) (ob : Objs) (K : List V → Objs → Prop),K (X3t vs ob).1 (X3t vs ob).2 → Xgk vs ob K
 | [],ob,K,h => h
 | v :: r,ob,K,h => by
  simp only [X3t] at h
  simp only [Xgk]
  split at h
  ·rename_i d ob' e
   rw [e]
   exact Xbd r ob' _ h
  ·rename_i e
   rw [e]
   exact Xbd r ob _ h
theorem Zp {n : Nat} {vs : List V} {ob b : Objs} {K : Objs → Prop} (h : Xbx n vs ob = some b) (hK : K b) : Xx n K vs ob := by
 unfold Xbx at h
 rw [Bool.cond_eq_ite] at h
 split at h
 ·rename_i hc
  simp only [Bool.and_eq_true,Bool.not_eq_true'] at hc
  cases h
  exact ⟨_,hc.1,hc.2,hK⟩
 ·cases h
theorem Xfu {n : Nat} {rs : List RV} {sl : Xb} {ob b : Objs} {o : Out} {K : Out → Objs → Prop} (h : Ygo n rs sl ob = some (o,b)) (hK : K o b) : Vu sl ob rs fun vs => Xgk vs ob fun vs ob => Xx n (K (.ret (Uc vs))) vs ob := by
 unfold Ygo at h
 split at h
 ·rename_i vs hv
  rw [Option.map_eq_some_iff] at h
  obtain ⟨b',hb,e⟩ := h
  cases e
  exact Qz rs _ vs hv (Xbd vs ob _ (Zp hb hK))
 ·cases h
theorem Xlm {n : Nat} {rs : List RV} {r : Rs} {o : Out} {b : Objs} {K : Out → Objs → Prop} (h : X8g n rs r = some (o,b)) (hK : K o b) : r.to (V2 n rs K) := by
 unfold X8g at h
 split at h
 ·exact Xfu h hK
 ·exact Xfu h hK
 ·rw [Option.map_eq_some_iff] at h
  obtain ⟨b',hb,e⟩ := h
  cases e
  exact Zp hb hK
 ·cases h
theorem Xd3 {n : Nat} {rs : List RV} {sl : Xb} {ob b : Objs} {o : Out} {K : Out → Objs → Prop} (h : X2z n rs sl ob = some (o,b)) (hK : K o b) : Vu sl ob rs fun vs => Xx n (K (.ret (Uc vs))) vs ob := by
 unfold X2z at h
 split at h
 ·rename_i vs hv
  rw [Option.map_eq_some_iff] at h
  obtain ⟨b',hb,e⟩ := h
  cases e
  exact Qz rs _ vs hv (Zp hb hK)
 ·cases h
theorem Xiz {n : Nat} {rs : List RV} {r : Rs} {o : Out} {b : Objs} {K : Out → Objs → Prop} (h : Xuj n rs r = some (o,b)) (hK : K o b) : r.to (Xiy n rs K) := by
 unfold Xuj at h
 split at h
 ·exact Xd3 h hK
 ·exact Xd3 h hK
 ·rw [Option.map_eq_some_iff] at h
  obtain ⟨b',hb,e⟩ := h
  cases e
  exact Zp hb hK
 ·cases h
theorem Z6 {rs : List RV} {sl : Xb} {ob : Objs} {v : V} {K : V → Prop} (h : Xjg rs sl ob = some v) (hK : K v) : Vu sl ob rs fun vs => Vh (fun l _ => K (Uc (l.map .d))) (V.givs ob vs) := by
 unfold Xjg at h
 split at h
 ·rename_i vs hv
  rw [Option.map_eq_some_iff] at h
  obtain ⟨p,hp,rfl⟩ := h
  refine Qz rs _ vs hv ?_
  rw [hp]; exact hK
 ·cases h
theorem Xou {rs : List RV} {r : Rs} {v : V} {K : V → Prop} (h : Xx6 rs r = some v) (hK : K v) : r.to (Xca rs K) := by
 unfold Xx6 at h
 split at h
 ·exact Z6 h hK
 ·exact Z6 h hK
 ·cases h
variable (hm : P.p.follows .mixedOrders = true) (hF : FT.ok P.p F) (hR : R.ok P)
include hm hF hR
theorem Xa5 {g : Nat} {vs : List V} {ob b : Objs} {rv : Option V} {K : Objs → Prop} (h : Yce R L F g vs ob rv = some b) (hK : K b) : DCall P g vs ob rv K := by
 unfold Yce at h
 split at h
 ·rename_i its keep k s n hl
  rw [Bool.cond_eq_ite] at h
  split at h
  ·rename_i e
   have e : n = vs.length := Nat.eq_of_beq_eq_true e
   subst e
   have hok := (hF g _ hl).1
   simp only [FI.ok] at hok
   refine Xe2 (keep := keep) hm hok (We hR _ _ _ ?_)
   split at h
   ·rename_i sl ob' e1
    rw [e1]
    refine S.run_sound (L := L) hR s _ _ _ ?_
    split at h
    ·rename_i e2; rw [e2]; exact Zp h hK
    ·rename_i e2; rw [e2]; exact Zp h hK
    ·cases h
   ·cases h
  ·cases h
 ·cases h
theorem Xlp {g : Nat} {cl : List V} {rs : List RV} {r : Rs} {v : V} {K : V → Prop} (h : X8o R L F g cl rs r = some v) (hK : K v) : r.to (Xgc P g cl rs K) := by
 unfold X8o at h
 split at h
 ·rw [Option.bind_eq_some_iff] at h
  obtain ⟨b,h1,h2⟩ := h
  exact Xa5 hm hF hR h1 (Z6 h2 hK)
 ·rw [Option.bind_eq_some_iff] at h
  obtain ⟨b,h1,h2⟩ := h
  exact Xa5 hm hF hR h1 (Z6 h2 hK)
 ·rw [Bool.cond_eq_ite] at h
  split at h
  ·rename_i hi
   rw [Option.bind_eq_some_iff] at h
   obtain ⟨b,h1,h2⟩ := h
   refine ⟨?_,Xa5 hm hF hR h1 (Z6 h2 hK)⟩
   unfold V.isIfc at hi
   split at hi
   ·exact ⟨_,_,.inl rfl⟩
   ·exact ⟨_,.any,.inr ⟨_,rfl⟩⟩
   ·cases hi
  ·cases h
 ·cases h
theorem Xfa {rs : List RV} {K : V → Prop} : ∀ (s : FSt) (sl : Xb) (ob : Objs) (v : V),Ycn R L F rs s sl ob = some v → K v → fwp P rs K s sl ob
 | .pre s r,sl,ob,v,h,hK => by
  simp only [Ycn] at h
  simp only [fwp]
  refine S.run_sound (L := L) hR s _ _ _ ?_
  split at h
  ·rename_i e; rw [e]; exact Xfa r _ _ v h hK
  ·rename_i e; rw [e]; exact Z6 h hK
  ·cases h
 | .dfr its keep k s,sl,ob,v,h,hK => by
  simp only [Ycn] at h
  simp only [fwp]
  refine We hR _ _ _ ?_
  split at h
  ·rename_i sl' ob' e
   rw [e]
   simp only [Rq.to]
   split at h
   ·rename_i g fi ca e2
    rw [e2]
    rw [Bool.cond_eq_ite] at h
    split at h
    ·rename_i hc
     exact ⟨hR.ca _ hc,S.run_sound (L := L) hR s _ _ _ (Xlp hm hF hR h hK)⟩
    ·cases h
   ·cases h
  ·cases h
theorem Xj9 {f : Nat} {ds : List D} {v : V} {ob : Objs} {K : V → Prop} (h : pcD R L F f ds = some v) (hK : K v) : PCall P f (ds.map .d) ob K := by
 unfold pcD at h
 split at h
 ·rename_i s rs n hl
  rw [Bool.cond_eq_ite] at h
  split at h
  ·rename_i e
   have e : n = ds.length := Nat.eq_of_beq_eq_true e
   subst e
   exact Xfo hm (hF f _ hl).1 (S.run_sound (L := L) hR s _ _ _ (Xou h hK))
  ·cases h
 ·rename_i s rs n hl
  rw [Bool.cond_eq_ite] at h
  split at h
  ·rename_i e
   have e : n = ds.length := Nat.eq_of_beq_eq_true e
   subst e
   exact Xds hm (hF f _ hl).1 (Xfa hm hF hR s _ _ v h hK)
  ·cases h
 ·cases h
theorem Xka {X : Fns} (hX : X.ok P) {f : Nat} {ds : List D} {v : V} {ob : Objs} {K : V → Prop} (h : pcX X R L F f ds ob = some v) (hK : K v) : PCall P f (ds.map .d) ob K := by
 unfold pcX at h
 split at h
 ·rename_i r hr; cases h; exact (hX.pc _ _ _ _ hr).mono fun v' e => by subst e; exact hK
 ·exact Xj9 hm hF hR h hK
theorem Xx0 {X : Fns} (hX : X.ok P) {f : Nat} {vs : List V} {v : V} {ob : Objs} (h : pcR X R L F f vs ob = some v) : PCall P f vs ob fun v' => v' = v := by
 unfold pcR at h
 split at h
 ·rename_i ds hd
  rw [V.allD_map hd]
  exact Xka hm hF hR hX h rfl
 ·split at h
  ·rename_i ds hd
   unfold Yco at h
   split at h
   ·rename_i v' hv
    rw [Bool.cond_eq_ite] at h
    split at h
    ·rename_i hfl
     cases h
     exact PCall.borrow hd (Xka hm hF hR hX hv ⟨hfl,rfl⟩)
    ·cases h
   ·cases h
  ·cases h
theorem Xt3 {f : Nat} {vs : List V} {o : Out} {ob b : Objs} (h : acR R L F f vs ob = some (o,b)) : ACall P f vs ob fun o' b' => o' = o ∧ b' = b := by
 unfold acR at h
 split at h
 ·rename_i s rs n hl
  rw [Bool.cond_eq_ite] at h
  split at h
  ·rename_i e
   have e : n = vs.length := Nat.eq_of_beq_eq_true e
   subst e
   exact Xey hm (hF f _ hl).1 (S.run_sound (L := L) hR s _ _ _ (Xlm h ⟨rfl,rfl⟩))
  ·cases h
 ·rename_i s rs n hl
  rw [Bool.cond_eq_ite] at h
  split at h
  ·rename_i e
   have e : n = vs.length := Nat.eq_of_beq_eq_true e
   subst e
   exact Xc0 hm (hF f _ hl).1 (S.run_sound (L := L) hR s _ _ _ (Xiz h ⟨rfl,rfl⟩))
  ·cases h
 ·split at h
  ·rename_i ds hd
   rw [Option.map_eq_some_iff] at h
   obtain ⟨v,hv,e⟩ := h
   cases e
   rw [V.allD_map hd]
   exact PCall.acall (Xj9 hm hF hR hv ⟨rfl,rfl⟩)
  ·cases h
 ·cases h
end
theorem Ycr {p : Program} {F : FT} (hF : FT.ok p F) (f : Nat) (h : (Xju F f).isSome = true) : Xj p f = true := by
 obtain ⟨x,hx⟩ := Option.isSome_iff_exists.1 h
 exact (hF f x hx).2
theorem Xfb {P : Prg} {L : Nat} {F : FT} {X : Fns} (hm : P.p.follows .mixedOrders = true) (hF : FT.ok P.p F) (hX : X.ok P) : ∀ n,(fns L F X n).ok P
 | 0 => hX
 | n + 1 => by
  refine ⟨fun f vs ob o b h => ?_,fun f vs ob v h => ?_,fun f h => ?_,fun g x h => hX.gl g x h⟩
  ·simp only [fns] at h
   split at h
   ·rename_i r hr; cases h; exact hX.call _ _ _ _ _ hr
   ·exact Xt3 hm hF (Xfb hm hF hX n) h
  ·simp only [fns] at h
   exact Xx0 hm hF (Xfb hm hF hX n) hX h
  ·simp only [fns,Bool.or_eq_true] at h
   rcases h with h | h
   ·exact Ycr hF f h
   ·exact hX.ca f h
end Go.Ab
/- The table of the functions' texts for the evaluator, written by a program; that it is right is checked by the kernel. No condition. -/
namespace Go.Proofs.YtmapdjjigmkbfaaGreatDoor
open Go Go.Ab
set_option maxRecDepth 100000
def Xs6 : FT := [(39,.pl Yh5 [.t 2] 1),
 (43,.rc Xvn X3v 6 Yh9 3),
 (44,.pl Yia [.c 0 256 true] 0),
 (45,.pl Yib [] 1),
 (46,.pl Yic [] 1),
 (47,.pl Yid [] 1),
 (48,.pl Yie [] 1),
 (49,.pl Yif [] 1),
 (50,.pl Yig [.t 2] 1),
 (51,.pl Yih [.t 4] 2),
 (52,.pl Yii [.t 4,.t 5] 2),
 (54,.pl Yij [.t 2] 1),
 (96,.pl Yi5 [.t 4] 2),
 (97,.pl Yi6 [.t 3] 2),
 (98,.pl Yi7 [] 3),
 (99,.pl Yi8 [.t 3] 2),
 (100,.pl X85 [.t 4] 2),
 (101,.pl X86 [.t 2] 1),
 (129,.pl X9m [.t 4] 2),
 (10,.df Yhw [.c 4 17 true,.c 5 1 false,.c 6 1 false] 2),
 (14,.pl Yhx [.t 4,.t 5] 2),
 (23,.pl Ylu [.c 0 7 true] 0),
 (25,.rc Xvm X3u 7 Yh0 3),
 (26,.pl Yh1 [.t 2] 1),
 (27,.kp Yh2 [.c 2 18 true] 1),
 (28,.pl Yh3 [.c 4 17 true] 2),
 (38,.pl Yh4 [] 2),
 (59,.pl Yim [.c 1 14 true] 1),
 (60,.pl Yin [.t 2] 1),
 (61,.pl Yio [.c 1 14 true] 1),
 (62,.pl Yip [.c 1 14 true] 1),
 (63,.pl Yiq [.c 6 4 true] 3),
 (64,.pl Yir [.c 1 14 true] 1),
 (65,.pl Yis [.t 2] 1),
 (66,.pl Yit [.t 8] 4),
 (67,.pl Yiu [.t 6] 3),
 (68,.pl Yiv [.c 2 14 true] 1),
 (69,.pl Yiw [] 1),
 (70,.pl Yix [.t 4] 2),
 (72,.pl Yiz [] 2),
 (91,.pl Yi0 [] 2),
 (111,.pl X9c [.c 2 5 true] 1),
 (112,.pl X9d [.t 2] 1),
 (115,.pl X9g [.t 4] 2),
 (116,.pl X9h [] 2),
 (8,.pl ir8 [.t 0] 0),
 (21,.pl Yls [.c 4 32 true,.t 5] 2),
 (22,.pl Ylt [.c 4 32 true] 2),
 (58,.pl Ylz [.c 2 32 true] 1),
 (109,.pl Ycx [] 2),
 (110,.pl Ycy [] 2),
 (134,.pl Ycz [.t 4] 2),
 (20,.pl Yhz [.t 6] 3),
 (40,.pl Yh6 [.t 4,.t 5] 2),
 (56,.pl Yik [.c 4 6 true,.t 5] 2),
 (57,.pl Yil [.t 6] 3),
 (71,.pl Yiy [.t 4,.t 5] 2),
 (92,.pl Yi1 [.t 6,.t 7] 3),
 (94,.pl Yi3 [.t 4] 2),
 (105,.pl X87 [.c 6 6 true,.t 7] 3),
 (106,.pl X88 [.t 4] 2),
 (107,.pl X89 [.t 4] 2),
 (108,.pl X9a [.t 4] 2),
 (113,.pl X9e [.t 6,.t 7] 3),
 (125,.pl X9i [.t 4] 2),
 (126,.pl X9j [.t 4] 3),
 (127,.pl X9k [.c 4 4 true,.t 5] 2),
 (128,.pl X9l [.t 2] 1),
 (135,.pl X9o [.t 4] 2),
 (136,.pl X9p [.t 4] 3),
 (137,.pl X9q [.t 6,.t 7] 3),
 (147,.pl X9r [.t 4] 2),
 (148,.pl X9s [.t 4] 2),
 (149,.pl X9t [.t 4] 2),
 (150,.pl X9u [.t 4] 2),
 (151,.pl X9v [.t 2] 1),
 (152,.pl X9w [.t 6,.t 7] 3),
 (166,.pl X9y [.t 4] 2),
 (167,.pl X9z [.t 4] 3),
 (93,.pl Yi2 [.t 2] 1),
 (114,.pl X9f [.t 2] 1),
 (153,.pl X9x [.t 2] 1),
 (133,.pl X9n [.c 0 5 true] 0),
 (15,.pl Yhy [.t 4] 2),
 (41,.pl Yh7 [.t 2] 1),
 (42,.pl Yh8 [.t 6] 3),
 (95,.pl Yi4 [.t 4] 2),
 (18,.pl Ylr [.c 2 1 false] 1),
 (55,.pl Yly [] 3)]
theorem Xia : FT.ok Tryz.prog Xs6 :=
 FT.ok_cons Yom (by kernel_rfl)
 (FT.ok_cons Yko (by kernel_rfl)
 (FT.ok_cons Yoq (by kernel_rfl)
 (FT.ok_cons Yor (by kernel_rfl)
 (FT.ok_cons Yos (by kernel_rfl)
 (FT.ok_cons Yot (by kernel_rfl)
 (FT.ok_cons You (by kernel_rfl)
 (FT.ok_cons Yov (by kernel_rfl)
 (FT.ok_cons ok50 (by kernel_rfl)
 (FT.ok_cons ok51 (by kernel_rfl)
 (FT.ok_cons ok52 (by kernel_rfl)
 (FT.ok_cons ok54 (by kernel_rfl)
 (FT.ok_cons Ypg (by kernel_rfl)
 (FT.ok_cons Yph (by kernel_rfl)
 (FT.ok_cons Ypi (by kernel_rfl)
 (FT.ok_cons Ypj (by kernel_rfl)
 (FT.ok_cons Yeh (by kernel_rfl)
 (FT.ok_cons Yei (by kernel_rfl)
 (FT.ok_cons Yex (by kernel_rfl)
 (FT.ok_cons Yoe (by kernel_rfl)
 (FT.ok_cons Yof (by kernel_rfl)
 (FT.ok_cons Ys6 (by kernel_rfl)
 (FT.ok_cons Ygn (by kernel_rfl)
 (FT.ok_cons Yoi (by kernel_rfl)
 (FT.ok_cons Yoj (by kernel_rfl)
 (FT.ok_cons Yok (by kernel_rfl)
 (FT.ok_cons Yol (by kernel_rfl)
 (FT.ok_cons Yoy (by kernel_rfl)
 (FT.ok_cons Yoz (by kernel_rfl)
 (FT.ok_cons Yo0 (by kernel_rfl)
 (FT.ok_cons Yo1 (by kernel_rfl)
 (FT.ok_cons Yo2 (by kernel_rfl)
 (FT.ok_cons Yo3 (by kernel_rfl)
 (FT.ok_cons Yo4 (by kernel_rfl)
 (FT.ok_cons Ykp (by kernel_rfl)
 (FT.ok_cons Yo5 (by kernel_rfl)
 (FT.ok_cons Yo6 (by kernel_rfl)
 (FT.ok_cons Yo7 (by kernel_rfl)
 (FT.ok_cons Yo8 (by kernel_rfl)
 (FT.ok_cons Ypa (by kernel_rfl)
 (FT.ok_cons Ypb (by kernel_rfl)
 (FT.ok_cons Yen (by kernel_rfl)
 (FT.ok_cons Yeo (by kernel_rfl)
 (FT.ok_cons Yer (by kernel_rfl)
 (FT.ok_cons Yes (by kernel_rfl)
 (FT.ok_cons ok8 (by kernel_rfl)
 (FT.ok_cons Ys4 (by kernel_rfl)
 (FT.ok_cons Ys5 (by kernel_rfl)
 (FT.ok_cons Ytb (by kernel_rfl)
 (FT.ok_cons Ykl (by kernel_rfl)
 (FT.ok_cons Ykm (by kernel_rfl)
 (FT.ok_cons Ykn (by kernel_rfl)
 (FT.ok_cons Yoh (by kernel_rfl)
 (FT.ok_cons Yon (by kernel_rfl)
 (FT.ok_cons Yow (by kernel_rfl)
 (FT.ok_cons Yox (by kernel_rfl)
 (FT.ok_cons Yo9 (by kernel_rfl)
 (FT.ok_cons Ypc (by kernel_rfl)
 (FT.ok_cons Ype (by kernel_rfl)
 (FT.ok_cons Yej (by kernel_rfl)
 (FT.ok_cons Yek (by kernel_rfl)
 (FT.ok_cons Yel (by kernel_rfl)
 (FT.ok_cons Yem (by kernel_rfl)
 (FT.ok_cons Yep (by kernel_rfl)
 (FT.ok_cons Yet (by kernel_rfl)
 (FT.ok_cons Yeu (by kernel_rfl)
 (FT.ok_cons Yev (by kernel_rfl)
 (FT.ok_cons Yew (by kernel_rfl)
 (FT.ok_cons Yez (by kernel_rfl)
 (FT.ok_cons Ye0 (by kernel_rfl)
 (FT.ok_cons Ye1 (by kernel_rfl)
 (FT.ok_cons Ye2 (by kernel_rfl)
 (FT.ok_cons Ye3 (by kernel_rfl)
 (FT.ok_cons Ye4 (by kernel_rfl)
 (FT.ok_cons Ye5 (by kernel_rfl)
 (FT.ok_cons Ye6 (by kernel_rfl)
 (FT.ok_cons Ye7 (by kernel_rfl)
 (FT.ok_cons Ye9 (by kernel_rfl)
 (FT.ok_cons Yfa (by kernel_rfl)
 (FT.ok_cons Ypd (by kernel_rfl)
 (FT.ok_cons Yeq (by kernel_rfl)
 (FT.ok_cons Ye8 (by kernel_rfl)
 (FT.ok_cons Yey (by kernel_rfl)
 (FT.ok_cons Yog (by kernel_rfl)
 (FT.ok_cons Yoo (by kernel_rfl)
 (FT.ok_cons Yop (by kernel_rfl)
 (FT.ok_cons Ypf (by kernel_rfl)
 (FT.ok_cons Ys3 (by kernel_rfl)
 (FT.ok_cons Yta (by kernel_rfl)
 (FT.ok_nil)))))))))))))))))))))))))))))))))))))))))))))))))))))))))))))))))))))))))))))))))))))))))
end Go.Proofs.YtmapdjjigmkbfaaGreatDoor
/- The lexer by fuel, to be computed. No program. -/
namespace Go.Lx
open Go Go.Ab
def X98 : Nat → List UInt8 → Nat → Res
 | 0,_,_ => .ok []
 | _,[],_ => .ok []
 | f + 1,c :: r,off => match stp c r with
  | .skip n => X98 f (r.drop n) (off + n + 1)
  | .tok k t m n => Xsz ⟨k,t,m,off⟩ (X98 f (r.drop n) (off + n + 1))
  | .err => .err off
theorem Xl5 : ∀ (f : Nat) (s : List UInt8) (off : Nat),s.length ≤ f → X98 f s off = Wx s off
 | 0,s,off,h => by
  have : s = [] := List.length_eq_zero_iff.1 (by omega)
  subst this; simp [X98,Wx]
 | f + 1,[],off,h => by simp [X98,Wx]
 | f + 1,c :: r,off,h => by
  rw [X98,Wx]
  have hl : ∀ n,(r.drop n).length ≤ f := fun n => by simp at h ⊢; omega
  split
  ·rw [Xl5 f _ _ (hl _)]; try simp_all
  ·rw [Xl5 f _ _ (hl _)]; try simp_all
  ·simp_all
end Go.Lx
/- What the evaluator of the questions' examples knows beside its table. No condition. -/
namespace Go.Lx
open Go Go.Ab
def Yc2 : D := .agg [.int .u32 1116352408,.int .u32 1899447441,.int .u32 3049323471,.int .u32 3921009573,.int .u32 961987163,.int .u32 1508970993,.int .u32 2453635748,.int .u32 2870763221,.int .u32 3624381080,.int .u32 310598401,.int .u32 607225278,.int .u32 1426881987,.int .u32 1925078388,.int .u32 2162078206,.int .u32 2614888103,.int .u32 3248222580,.int .u32 3835390401,.int .u32 4022224774,.int .u32 264347078,.int .u32 604807628,.int .u32 770255983,.int .u32 1249150122,.int .u32 1555081692,.int .u32 1996064986,.int .u32 2554220882,.int .u32 2821834349,.int .u32 2952996808,.int .u32 3210313671,.int .u32 3336571891,.int .u32 3584528711,.int .u32 113926993,.int .u32 338241895,.int .u32 666307205,.int .u32 773529912,.int .u32 1294757372,.int .u32 1396182291,.int .u32 1695183700,.int .u32 1986661051,.int .u32 2177026350,.int .u32 2456956037,.int .u32 2730485921,.int .u32 2820302411,.int .u32 3259730800,.int .u32 3345764771,.int .u32 3516065817,.int .u32 3600352804,.int .u32 4094571909,.int .u32 275423344,.int .u32 430227734,.int .u32 506948616,.int .u32 659060556,.int .u32 883997877,.int .u32 958139571,.int .u32 1322822218,.int .u32 1537002063,.int .u32 1747873779,.int .u32 1955562222,.int .u32 2024104815,.int .u32 2227730452,.int .u32 2361852424,.int .u32 2428436474,.int .u32 2756734187,.int .u32 3204031479,.int .u32 3329325298]
def Yp2 : D := .agg [.int .u8 31,.int .u8 80,.int .u8 135,.int .u8 219,.int .u8 145,.int .u8 156,.int .u8 237,.int .u8 92,.int .u8 18,.int .u8 60,.int .u8 127,.int .u8 80,.int .u8 125,.int .u8 63,.int .u8 204,.int .u8 232,.int .u8 24,.int .u8 203,.int .u8 12,.int .u8 246,.int .u8 231,.int .u8 124,.int .u8 47,.int .u8 149,.int .u8 168,.int .u8 163,.int .u8 94,.int .u8 149,.int .u8 30,.int .u8 3,.int .u8 253,.int .u8 185]
def Yp3 : D := .list 1 [.int .u8 31,.int .u8 80,.int .u8 135,.int .u8 219,.int .u8 145,.int .u8 156,.int .u8 237,.int .u8 92,.int .u8 18,.int .u8 60,.int .u8 127,.int .u8 80,.int .u8 125,.int .u8 63,.int .u8 204,.int .u8 232,.int .u8 24,.int .u8 203,.int .u8 12,.int .u8 246,.int .u8 231,.int .u8 124,.int .u8 47,.int .u8 149,.int .u8 168,.int .u8 163,.int .u8 94,.int .u8 149,.int .u8 30,.int .u8 3,.int .u8 253,.int .u8 185]
def Yld : D := .agg [.int .u8 245,.int .u8 130,.int .u8 95,.int .u8 56,.int .u8 178,.int .u8 131,.int .u8 52,.int .u8 248,.int .u8 69,.int .u8 175,.int .u8 109,.int .u8 205,.int .u8 19,.int .u8 159,.int .u8 111,.int .u8 163,.int .u8 102,.int .u8 117,.int .u8 229,.int .u8 99,.int .u8 147,.int .u8 61,.int .u8 67,.int .u8 81,.int .u8 101,.int .u8 242,.int .u8 184,.int .u8 139,.int .u8 157,.int .u8 241,.int .u8 225,.int .u8 45]
def Ypv : List UInt8 := [97,115,107,32,111,108,100,32,102,111,114,32,99,108,117,98,32,123,32,102,114,111,109,32,112,32,98,105,114,116,104,32,59,32,102,114,111,109,32,99,32,115,105,122,101,32,111,116,104,101,114,32,59,32,97,110,121,32,123,32,112,32,46,32,100,97,121,32,60,32,52,48,48,32,59,32,108,101,97,115,116,32,49,32,123,32,104,97,115,32,99,32,59,32,53,32,60,32,61,32,99,32,46,32,104,105,103,104,32,59,32,125,32,59,32,125,32,59,32,125]
def Yp4 : List UInt8 := [113,117,101,115,116,105,111,110]
def bo1 : Objs := [(2,.box 235 (.d (.agg [.int .u8 31,.int .u8 80,.int .u8 135,.int .u8 219,.int .u8 145,.int .u8 156,.int .u8 237,.int .u8 92,.int .u8 18,.int .u8 60,.int .u8 127,.int .u8 80,.int .u8 125,.int .u8 63,.int .u8 204,.int .u8 232,.int .u8 24,.int .u8 203,.int .u8 12,.int .u8 246,.int .u8 231,.int .u8 124,.int .u8 47,.int .u8 149,.int .u8 168,.int .u8 163,.int .u8 94,.int .u8 149,.int .u8 30,.int .u8 3,.int .u8 253,.int .u8 185,.int .u8 97,.int .u8 115,.int .u8 107,.int .u8 32,.int .u8 111,.int .u8 108,.int .u8 100,.int .u8 32,.int .u8 102,.int .u8 111,.int .u8 114,.int .u8 32,.int .u8 99,.int .u8 108,.int .u8 117,.int .u8 98,.int .u8 32,.int .u8 123,.int .u8 32,.int .u8 102,.int .u8 114,.int .u8 111,.int .u8 109,.int .u8 32,.int .u8 112,.int .u8 32,.int .u8 98,.int .u8 105,.int .u8 114,.int .u8 116,.int .u8 104,.int .u8 32]))),(1,.box 202 (.d (.agg [.int .u32 1779033703,.int .u32 3144134277,.int .u32 1013904242,.int .u32 2773480762,.int .u32 1359893119,.int .u32 2600822924,.int .u32 528734635,.int .u32 1541459225]))),(0,.box 76 (.d (.agg [.int .u8 0,.int .u8 0,.int .u8 0,.int .u8 0,.int .u8 0,.int .u8 0,.int .u8 0,.int .u8 0,.int .u8 0,.int .u8 0,.int .u8 0,.int .u8 0,.int .u8 0,.int .u8 0,.int .u8 0,.int .u8 0,.int .u8 0,.int .u8 0,.int .u8 0,.int .u8 0,.int .u8 0,.int .u8 0,.int .u8 0,.int .u8 0,.int .u8 0,.int .u8 0,.int .u8 0,.int .u8 0,.int .u8 0,.int .u8 0,.int .u8 0,.int .u8 0])))]
def bp1 : Objs := [(2,.box 235 (.d (.agg [.int .u8 31,.int .u8 80,.int .u8 135,.int .u8 219,.int .u8 145,.int .u8 156,.int .u8 237,.int .u8 92,.int .u8 18,.int .u8 60,.int .u8 127,.int .u8 80,.int .u8 125,.int .u8 63,.int .u8 204,.int .u8 232,.int .u8 24,.int .u8 203,.int .u8 12,.int .u8 246,.int .u8 231,.int .u8 124,.int .u8 47,.int .u8 149,.int .u8 168,.int .u8 163,.int .u8 94,.int .u8 149,.int .u8 30,.int .u8 3,.int .u8 253,.int .u8 185,.int .u8 97,.int .u8 115,.int .u8 107,.int .u8 32,.int .u8 111,.int .u8 108,.int .u8 100,.int .u8 32,.int .u8 102,.int .u8 111,.int .u8 114,.int .u8 32,.int .u8 99,.int .u8 108,.int .u8 117,.int .u8 98,.int .u8 32,.int .u8 123,.int .u8 32,.int .u8 102,.int .u8 114,.int .u8 111,.int .u8 109,.int .u8 32,.int .u8 112,.int .u8 32,.int .u8 98,.int .u8 105,.int .u8 114,.int .u8 116,.int .u8 104,.int .u8 32]))),(1,.box 202 (.d (.agg [.int .u32 3353024799,.int .u32 3401748870,.int .u32 3158369745,.int .u32 740706947,.int .u32 2987156969,.int .u32 2150010247,.int .u32 291726018,.int .u32 4028775330]))),(0,.box 76 (.d (.agg [.int .u8 0,.int .u8 0,.int .u8 0,.int .u8 0,.int .u8 0,.int .u8 0,.int .u8 0,.int .u8 0,.int .u8 0,.int .u8 0,.int .u8 0,.int .u8 0,.int .u8 0,.int .u8 0,.int .u8 0,.int .u8 0,.int .u8 0,.int .u8 0,.int .u8 0,.int .u8 0,.int .u8 0,.int .u8 0,.int .u8 0,.int .u8 0,.int .u8 0,.int .u8 0,.int .u8 0,.int .u8 0,.int .u8 0,.int .u8 0,.int .u8 0,.int .u8 0])))]
def bo2 : Objs := [(2,.box 235 (.d (.agg [.int .u8 59,.int .u8 32,.int .u8 102,.int .u8 114,.int .u8 111,.int .u8 109,.int .u8 32,.int .u8 99,.int .u8 32,.int .u8 115,.int .u8 105,.int .u8 122,.int .u8 101,.int .u8 32,.int .u8 111,.int .u8 116,.int .u8 104,.int .u8 101,.int .u8 114,.int .u8 32,.int .u8 59,.int .u8 32,.int .u8 97,.int .u8 110,.int .u8 121,.int .u8 32,.int .u8 123,.int .u8 32,.int .u8 112,.int .u8 32,.int .u8 46,.int .u8 32,.int .u8 100,.int .u8 97,.int .u8 121,.int .u8 32,.int .u8 60,.int .u8 32,.int .u8 52,.int .u8 48,.int .u8 48,.int .u8 32,.int .u8 59,.int .u8 32,.int .u8 108,.int .u8 101,.int .u8 97,.int .u8 115,.int .u8 116,.int .u8 32,.int .u8 49,.int .u8 32,.int .u8 123,.int .u8 32,.int .u8 104,.int .u8 97,.int .u8 115,.int .u8 32,.int .u8 99,.int .u8 32,.int .u8 59,.int .u8 32,.int .u8 53,.int .u8 32]))),(1,.box 202 (.d (.agg [.int .u32 3353024799,.int .u32 3401748870,.int .u32 3158369745,.int .u32 740706947,.int .u32 2987156969,.int .u32 2150010247,.int .u32 291726018,.int .u32 4028775330]))),(0,.box 76 (.d (.agg [.int .u8 0,.int .u8 0,.int .u8 0,.int .u8 0,.int .u8 0,.int .u8 0,.int .u8 0,.int .u8 0,.int .u8 0,.int .u8 0,.int .u8 0,.int .u8 0,.int .u8 0,.int .u8 0,.int .u8 0,.int .u8 0,.int .u8 0,.int .u8 0,.int .u8 0,.int .u8 0,.int .u8 0,.int .u8 0,.int .u8 0,.int .u8 0,.int .u8 0,.int .u8 0,.int .u8 0,.int .u8 0,.int .u8 0,.int .u8 0,.int .u8 0,.int .u8 0])))]
def bp2 : Objs := [(2,.box 235 (.d (.agg [.int .u8 59,.int .u8 32,.int .u8 102,.int .u8 114,.int .u8 111,.int .u8 109,.int .u8 32,.int .u8 99,.int .u8 32,.int .u8 115,.int .u8 105,.int .u8 122,.int .u8 101,.int .u8 32,.int .u8 111,.int .u8 116,.int .u8 104,.int .u8 101,.int .u8 114,.int .u8 32,.int .u8 59,.int .u8 32,.int .u8 97,.int .u8 110,.int .u8 121,.int .u8 32,.int .u8 123,.int .u8 32,.int .u8 112,.int .u8 32,.int .u8 46,.int .u8 32,.int .u8 100,.int .u8 97,.int .u8 121,.int .u8 32,.int .u8 60,.int .u8 32,.int .u8 52,.int .u8 48,.int .u8 48,.int .u8 32,.int .u8 59,.int .u8 32,.int .u8 108,.int .u8 101,.int .u8 97,.int .u8 115,.int .u8 116,.int .u8 32,.int .u8 49,.int .u8 32,.int .u8 123,.int .u8 32,.int .u8 104,.int .u8 97,.int .u8 115,.int .u8 32,.int .u8 99,.int .u8 32,.int .u8 59,.int .u8 32,.int .u8 53,.int .u8 32]))),(1,.box 202 (.d (.agg [.int .u32 1133438781,.int .u32 3720667108,.int .u32 2822332097,.int .u32 2789580547,.int .u32 2280602201,.int .u32 3609626632,.int .u32 2609829547,.int .u32 413238801]))),(0,.box 76 (.d (.agg [.int .u8 0,.int .u8 0,.int .u8 0,.int .u8 0,.int .u8 0,.int .u8 0,.int .u8 0,.int .u8 0,.int .u8 0,.int .u8 0,.int .u8 0,.int .u8 0,.int .u8 0,.int .u8 0,.int .u8 0,.int .u8 0,.int .u8 0,.int .u8 0,.int .u8 0,.int .u8 0,.int .u8 0,.int .u8 0,.int .u8 0,.int .u8 0,.int .u8 0,.int .u8 0,.int .u8 0,.int .u8 0,.int .u8 0,.int .u8 0,.int .u8 0,.int .u8 0])))]
def bo3 : Objs := [(2,.box 235 (.d (.agg [.int .u8 60,.int .u8 32,.int .u8 61,.int .u8 32,.int .u8 99,.int .u8 32,.int .u8 46,.int .u8 32,.int .u8 104,.int .u8 105,.int .u8 103,.int .u8 104,.int .u8 32,.int .u8 59,.int .u8 32,.int .u8 125,.int .u8 32,.int .u8 59,.int .u8 32,.int .u8 125,.int .u8 32,.int .u8 59,.int .u8 32,.int .u8 125,.int .u8 128,.int .u8 0,.int .u8 0,.int .u8 0,.int .u8 0,.int .u8 0,.int .u8 0,.int .u8 0,.int .u8 0,.int .u8 0,.int .u8 0,.int .u8 0,.int .u8 0,.int .u8 0,.int .u8 0,.int .u8 0,.int .u8 0,.int .u8 0,.int .u8 0,.int .u8 0,.int .u8 0,.int .u8 0,.int .u8 0,.int .u8 0,.int .u8 0,.int .u8 0,.int .u8 0,.int .u8 0,.int .u8 0,.int .u8 0,.int .u8 0,.int .u8 0,.int .u8 0,.int .u8 0,.int .u8 0,.int .u8 0,.int .u8 0,.int .u8 0,.int .u8 4,.int .u8 192]))),(1,.box 202 (.d (.agg [.int .u32 1133438781,.int .u32 3720667108,.int .u32 2822332097,.int .u32 2789580547,.int .u32 2280602201,.int .u32 3609626632,.int .u32 2609829547,.int .u32 413238801]))),(0,.box 76 (.d (.agg [.int .u8 0,.int .u8 0,.int .u8 0,.int .u8 0,.int .u8 0,.int .u8 0,.int .u8 0,.int .u8 0,.int .u8 0,.int .u8 0,.int .u8 0,.int .u8 0,.int .u8 0,.int .u8 0,.int .u8 0,.int .u8 0,.int .u8 0,.int .u8 0,.int .u8 0,.int .u8 0,.int .u8 0,.int .u8 0,.int .u8 0,.int .u8 0,.int .u8 0,.int .u8 0,.int .u8 0,.int .u8 0,.int .u8 0,.int .u8 0,.int .u8 0,.int .u8 0])))]
def bp3 : Objs := [(2,.box 235 (.d (.agg [.int .u8 60,.int .u8 32,.int .u8 61,.int .u8 32,.int .u8 99,.int .u8 32,.int .u8 46,.int .u8 32,.int .u8 104,.int .u8 105,.int .u8 103,.int .u8 104,.int .u8 32,.int .u8 59,.int .u8 32,.int .u8 125,.int .u8 32,.int .u8 59,.int .u8 32,.int .u8 125,.int .u8 32,.int .u8 59,.int .u8 32,.int .u8 125,.int .u8 128,.int .u8 0,.int .u8 0,.int .u8 0,.int .u8 0,.int .u8 0,.int .u8 0,.int .u8 0,.int .u8 0,.int .u8 0,.int .u8 0,.int .u8 0,.int .u8 0,.int .u8 0,.int .u8 0,.int .u8 0,.int .u8 0,.int .u8 0,.int .u8 0,.int .u8 0,.int .u8 0,.int .u8 0,.int .u8 0,.int .u8 0,.int .u8 0,.int .u8 0,.int .u8 0,.int .u8 0,.int .u8 0,.int .u8 0,.int .u8 0,.int .u8 0,.int .u8 0,.int .u8 0,.int .u8 0,.int .u8 0,.int .u8 0,.int .u8 0,.int .u8 4,.int .u8 192]))),(1,.box 202 (.d (.agg [.int .u32 4118961976,.int .u32 2994943224,.int .u32 1169124813,.int .u32 329215907,.int .u32 1719002467,.int .u32 2470265681,.int .u32 1710405771,.int .u32 2649874733]))),(0,.box 76 (.d (.agg [.int .u8 0,.int .u8 0,.int .u8 0,.int .u8 0,.int .u8 0,.int .u8 0,.int .u8 0,.int .u8 0,.int .u8 0,.int .u8 0,.int .u8 0,.int .u8 0,.int .u8 0,.int .u8 0,.int .u8 0,.int .u8 0,.int .u8 0,.int .u8 0,.int .u8 0,.int .u8 0,.int .u8 0,.int .u8 0,.int .u8 0,.int .u8 0,.int .u8 0,.int .u8 0,.int .u8 0,.int .u8 0,.int .u8 0,.int .u8 0,.int .u8 0,.int .u8 0])))]
def kgl (g : Nat) : Option D := bif Nat.beq g 0 then some Yc2 else none
def xh : Fns := ⟨fun _ _ _ => none,fun _ _ _ => none,fun _ => false,kgl⟩
end Go.Lx
