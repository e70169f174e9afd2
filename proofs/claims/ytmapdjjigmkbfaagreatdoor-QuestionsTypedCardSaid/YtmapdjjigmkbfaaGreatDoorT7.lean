/- Texts of this claim joined by a program, part 7 of 13; the last is: What the evaluator of the questions' examples knows beside its table. No condition. -/
import Derived.Test.YtmapdjjigmkbfaaGreatDoorT4
import Derived.Test.YtmapdjjigmkbfaaGreatDoorT5
import Derived.Test.YtmapdjjigmkbfaaGreatDoorT6
import Derived.KernelRfl
set_option linter.unusedSimpArgs false
set_option linter.unusedVariables false
set_option linter.unusedSectionVars false
set_option linter.defProp false
/- An evaluator of calls, and that what it yields holds. Over any program; no condition. -/
namespace Go.Ab
open Go

inductive FI where
 | pl (s : S) (rs : List RV) (n : Nat)
 | df (s : FSt) (rs : List RV) (n : Nat)
 | rc (its : List It) (keep : List Nat) (k : Nat) (s : S) (n : Nat)
  | kp (s : S) (rs : List RV) (n : Nat)
def FI.ok (p : Program) (f : Nat) : FI → Bool
 | .pl s rs n => Xt p f n s rs
 | .kp s rs n => Xt p f n s rs
 | .df s rs n => Xjl p f n s rs
 | .rc its _ k s n => Xjc p f n k its s
abbrev FT := List (Nat × FI)
def Xel : FT → Nat → Option FI
 | [], _ => none
 | (j, x) :: r, k => bif Nat.beq j k then some x else Xel r k
def FT.ok (p : Program) (F : FT) : Prop := ∀ f x, Xel F f = some x → FI.ok p f x = true ∧ Xg p f = true
theorem FT.ok_nil {p : Program} : FT.ok p [] := fun f x h => by cases h
theorem FT.ok_cons {p : Program} {f : Nat} {x : FI} {F : FT} (h : FI.ok p f x = true) (hc : Xg p f = true) (hF : FT.ok p F) : FT.ok p ((f, x) :: F) := fun g y hg => by
 simp only [Xel] at hg
 rw [Bool.cond_eq_ite] at hg
 split at hg
 ·rename_i e
  cases hg
  have e : f = g := Nat.eq_of_beq_eq_true e
  subst e
  exact ⟨h, hc⟩
 ·exact hF g y hg

def RV.run (sl : Xb) (ob : Objs) : RV → Option V
 | .t k => some (look sl k)
 | .c k n ag => ldR ob n ag (look sl k)
def Xws (sl : Xb) (ob : Objs) : List RV → Option (List V)
 | [] => some []
 | x :: r => match x.run sl ob with
  | some v => (Xws sl ob r).map (v :: ·)
  | none => none
def Xro : List V → Objs → List V × Objs
 | [], ob => ([], ob)
 | v :: r, ob => match V.giv ob v with
  | some (d, ob') => let p := Xro r ob'; (.d d :: p.1, p.2)
  | none => let p := Xro r ob; (v :: p.1, p.2)
def Ux (n : Nat) (vs : List V) (ob : Objs) : Option Objs :=
 let kp := V.idss vs ++ Xwj ob
 bif !V.mens (young n kp) vs && noMenO (young n kp) (Ys (young n kp) ob) then some (Ys (young n kp) ob) else none
def X03 (n : Nat) (rs : List RV) (sl : Xb) (ob : Objs) : Option (Out × Objs) := match Xws sl ob rs with
 | some vs => (Ux n (Xro vs ob).1 (Xro vs ob).2).map fun b => (.ret (Wb (Xro vs ob).1), b)
 | none => none
def Xva (n : Nat) (rs : List RV) : Rs → Option (Out × Objs)
 | some (.normal, sl, ob) => X03 n rs sl ob
 | some (.ret, sl, ob) => X03 n rs sl ob
 | some (.panic v, _, ob) => (Ux n [v] ob).map fun b => (.panic v, b)
 | _ => none
def Xoh (n : Nat) (rs : List RV) (sl : Xb) (ob : Objs) : Option (Out × Objs) := match Xws sl ob rs with
 | some vs => (Ux n vs ob).map fun b => (.ret (Wb vs), b)
 | none => none
def Xm0 (n : Nat) (rs : List RV) : Rs → Option (Out × Objs)
 | some (.normal, sl, ob) => Xoh n rs sl ob
 | some (.ret, sl, ob) => Xoh n rs sl ob
 | some (.panic v, _, ob) => (Ux n [v] ob).map fun b => (.panic v, b)
 | _ => none
def Xeu (rs : List RV) (sl : Xb) (ob : Objs) : Option V := match Xws sl ob rs with
 | some vs => (V.givs ob vs).map fun p => Wb (p.1.map .d)
 | none => none
def Xnt (rs : List RV) : Rs → Option V
 | some (.normal, sl, ob) => Xeu rs sl ob
 | some (.ret, sl, ob) => Xeu rs sl ob
 | _ => none

def Xxg (R : Fns) (L : Nat) (F : FT) (g : Nat) (vs : List V) (ob : Objs) (rv : Option V) : Option Objs := match Xel F g with
 | some (.rc its keep k s n) => bif Nat.beq n vs.length then
   (match Xon R its ((k, rv.getD (.d .nili)) :: Ua 0 vs) ob with
    | .ok sl ob' => (match s.run R L (Xc sl keep) ob' with
     | some (.normal, _, ob2) => Ux (fresh ob) [] ob2
     | some (.ret, _, ob2) => Ux (fresh ob) [] ob2
     | _ => none)
    | _ => none)
  else none
 | _ => none
def V.isIfc : V → Bool
 | .iface _ _ => true
 | .d (.iface _ _) => true
 | _ => false
def Xua (R : Fns) (L : Nat) (F : FT) (g : Nat) (cl : List V) (rs : List RV) : Rs → Option V
 | some (.normal, sl, ob) => (Xxg R L F g cl ob none).bind fun ob' => Xeu rs sl ob'
 | some (.ret, sl, ob) => (Xxg R L F g cl ob none).bind fun ob' => Xeu rs sl ob'
 | some (.panic v, sl, ob) => bif v.isIfc then (Xxg R L F g cl ob (some v)).bind fun ob' => Xeu rs sl ob' else none
 | _ => none
def Xw2 (R : Fns) (L : Nat) (F : FT) (rs : List RV) : FSt → Xb → Objs → Option V
 | .pre s r, sl, ob => match s.run R L sl ob with
  | some (.normal, sl', ob') => Xw2 R L F rs r sl' ob'
  | some (.ret, sl', ob') => Xeu rs sl' ob'
  | _ => none
 | .dfr its keep k s, sl, ob => match Xon R its sl ob with
  | .ok sl' ob' => (match look (Xc sl' keep) k with
   | .fn g fi ca => bif R.ca g then Xua R L F g (fi ++ ca) rs (s.run R L (Xc sl' keep) ob') else none
   | _ => none)
  | _ => none

def pcD (R : Fns) (L : Nat) (F : FT) (f : Nat) (ds : List D) : Option V := match Xel F f with
 | some (.pl s rs n) => bif Nat.beq n ds.length then Xnt rs (s.run R L (Ua 0 (ds.map .d)) []) else none
 | some (.df s rs n) => bif Nat.beq n ds.length then Xw2 R L F rs s (Ua 0 (ds.map .d)) [] else none
 | _ => none
def X0w (o : Option V) : Option V := match o with
 | some v => bif v.flatR then some v else none
 | none => none
def pcX (X R : Fns) (L : Nat) (F : FT) (f : Nat) (ds : List D) (ob : Objs) : Option V := match X.pc f (ds.map .d) ob with
 | some v => some v
 | none => pcD R L F f ds
def pcR (X R : Fns) (L : Nat) (F : FT) (f : Nat) (vs : List V) (ob : Objs) : Option V := match V.allD vs with
 | some ds => pcX X R L F f ds ob
 | none => match V.toDs ob 12 vs with
  | some ds => X0w (pcX X R L F f ds [])
  | none => none
def acR (R : Fns) (L : Nat) (F : FT) (f : Nat) (vs : List V) (ob : Objs) : Option (Out × Objs) := match Xel F f with
 | some (.pl s rs n) => bif Nat.beq n vs.length then Xva (fresh ob) rs (s.run R L (Ua 0 vs) ob) else none
 | some (.kp s rs n) => bif Nat.beq n vs.length then Xm0 (fresh ob) rs (s.run R L (Ua 0 vs) ob) else none
 | some (.df _ _ _) => match V.allD vs with
  | some ds => (pcD R L F f ds).map fun v => (.ret v, ob)
  | none => none
 | _ => none
def fns (L : Nat) (F : FT) (X : Fns) : Nat → Fns
 | 0 => X
 | n + 1 => ⟨fun f vs ob => match X.call f vs ob with
   | some r => some r
   | none => acR (fns L F X n) L F f vs ob,
  fun f vs ob => pcR X (fns L F X n) L F f vs ob,
  fun f => (Xel F f).isSome || X.ca f, X.gl⟩

section
variable {P : Prg} {R : Fns} {L : Nat} {F : FT}
theorem Wx {sl : Xb} {ob : Objs} : ∀ (rs : List RV) (K : List V → Prop) (vs : List V), Xws sl ob rs = some vs → K vs → Zu sl ob rs K
 | [], K, vs, h, hK => by cases h; exact hK
 | x :: r, K, vs, h, hK => by
  simp only [Xws] at h
  split at h
  ·rename_i v hv
   rw [Option.map_eq_some_iff] at h
   obtain ⟨l, hl, rfl⟩ := h
   simp only [Zu]
   have hr := Wx r (fun vs => K (v :: vs)) l hl hK
   cases x with
   | t k => simp only [RV.run, Option.some.injEq] at hv; subst hv; exact hr
   | c k n ag =>
    simp only [RV.run] at hv
    simp only [RV.wp]
    have h0 : (C.ld n ag (.t 0)).run [(0, look sl k)] ob = some v := by simpa [C.run, Xko, Xls, A.ev, look] using hv
    have h1 := C.run_sound (K := fun v => Zu sl ob r fun vs => K (v :: vs)) h0 hr
    simpa [C.wp, A.ev, look] using h1
  ·cases h
theorem Um : ∀ (vs : List V) (ob : Objs) (K : List V → Objs → Prop), K (Xro vs ob).1 (Xro vs ob).2 → Xcb vs ob K
 | [], ob, K, h => h
 | v :: r, ob, K, h => by
  simp only [Xro] at h
  simp only [Xcb]
  split at h
  ·rename_i d ob' e
   rw [e]
   exact Um r ob' _ h
  ·rename_i e
   rw [e]
   exact Um r ob _ h
theorem Yg {n : Nat} {vs : List V} {ob b : Objs} {K : Objs → Prop} (h : Ux n vs ob = some b) (hK : K b) : Xx n K vs ob := by
 unfold Ux at h
 rw [Bool.cond_eq_ite] at h
 split at h
 ·rename_i hc
  simp only [Bool.and_eq_true, Bool.not_eq_true'] at hc
  cases h
  exact ⟨_, hc.1, hc.2, hK⟩
 ·cases h
theorem Xan {n : Nat} {rs : List RV} {sl : Xb} {ob b : Objs} {o : Out} {K : Out → Objs → Prop} (h : X03 n rs sl ob = some (o, b)) (hK : K o b) : Zu sl ob rs fun vs => Xcb vs ob fun vs ob => Xx n (K (.ret (Wb vs))) vs ob := by
 unfold X03 at h
 split at h
 ·rename_i vs hv
  rw [Option.map_eq_some_iff] at h
  obtain ⟨b', hb, e⟩ := h
  cases e
  exact Wx rs _ vs hv (Um vs ob _ (Yg hb hK))
 ·cases h
theorem Xfv {n : Nat} {rs : List RV} {r : Rs} {o : Out} {b : Objs} {K : Out → Objs → Prop} (h : Xva n rs r = some (o, b)) (hK : K o b) : r.to (Wj n rs K) := by
 unfold Xva at h
 split at h
 ·exact Xan h hK
 ·exact Xan h hK
 ·rw [Option.map_eq_some_iff] at h
  obtain ⟨b', hb, e⟩ := h
  cases e
  exact Yg hb hK
 ·cases h
theorem Jw {n : Nat} {rs : List RV} {sl : Xb} {ob b : Objs} {o : Out} {K : Out → Objs → Prop} (h : Xoh n rs sl ob = some (o, b)) (hK : K o b) : Zu sl ob rs fun vs => Xx n (K (.ret (Wb vs))) vs ob := by
 unfold Xoh at h
 split at h
 ·rename_i vs hv
  rw [Option.map_eq_some_iff] at h
  obtain ⟨b', hb, e⟩ := h
  cases e
  exact Wx rs _ vs hv (Yg hb hK)
 ·cases h
theorem Xes {n : Nat} {rs : List RV} {r : Rs} {o : Out} {b : Objs} {K : Out → Objs → Prop} (h : Xm0 n rs r = some (o, b)) (hK : K o b) : r.to (Xzj n rs K) := by
 unfold Xm0 at h
 split at h
 ·exact Jw h hK
 ·exact Jw h hK
 ·rw [Option.map_eq_some_iff] at h
  obtain ⟨b', hb, e⟩ := h
  cases e
  exact Yg hb hK
 ·cases h
theorem Yv {rs : List RV} {sl : Xb} {ob : Objs} {v : V} {K : V → Prop} (h : Xeu rs sl ob = some v) (hK : K v) : Zu sl ob rs fun vs => Zg (fun l _ => K (Wb (l.map .d))) (V.givs ob vs) := by
 unfold Xeu at h
 split at h
 ·rename_i vs hv
  rw [Option.map_eq_some_iff] at h
  obtain ⟨p, hp, rfl⟩ := h
  refine Wx rs _ vs hv ?_
  rw [hp]; exact hK
 ·cases h
theorem Xe8 {rs : List RV} {r : Rs} {v : V} {K : V → Prop} (h : Xnt rs r = some v) (hK : K v) : r.to (J7 rs K) := by
 unfold Xnt at h
 split at h
 ·exact Yv h hK
 ·exact Yv h hK
 ·cases h
variable (hm : P.p.follows .mixedOrders = true) (hF : FT.ok P.p F) (hR : R.ok P)
include hm hF hR
theorem Uo {g : Nat} {vs : List V} {ob b : Objs} {rv : Option V} {K : Objs → Prop} (h : Xxg R L F g vs ob rv = some b) (hK : K b) : DCall P g vs ob rv K := by
 unfold Xxg at h
 split at h
 ·rename_i its keep k s n hl
  rw [Bool.cond_eq_ite] at h
  split at h
  ·rename_i e
   have e : n = vs.length := Nat.eq_of_beq_eq_true e
   subst e
   have hok := (hF g _ hl).1
   simp only [FI.ok] at hok
   refine Xa6 (keep := keep) hm hok (Yu hR _ _ _ ?_)
   split at h
   ·rename_i sl ob' e1
    rw [e1]
    refine S.run_sound (L := L) hR s _ _ _ ?_
    split at h
    ·rename_i e2; rw [e2]; exact Yg h hK
    ·rename_i e2; rw [e2]; exact Yg h hK
    ·cases h
   ·cases h
  ·cases h
 ·cases h
theorem Xf3 {g : Nat} {cl : List V} {rs : List RV} {r : Rs} {v : V} {K : V → Prop} (h : Xua R L F g cl rs r = some v) (hK : K v) : r.to (Xch P g cl rs K) := by
 unfold Xua at h
 split at h
 ·rw [Option.bind_eq_some_iff] at h
  obtain ⟨b, h1, h2⟩ := h
  exact Uo hm hF hR h1 (Yv h2 hK)
 ·rw [Option.bind_eq_some_iff] at h
  obtain ⟨b, h1, h2⟩ := h
  exact Uo hm hF hR h1 (Yv h2 hK)
 ·rw [Bool.cond_eq_ite] at h
  split at h
  ·rename_i hi
   rw [Option.bind_eq_some_iff] at h
   obtain ⟨b, h1, h2⟩ := h
   refine ⟨?_, Uo hm hF hR h1 (Yv h2 hK)⟩
   unfold V.isIfc at hi
   split at hi
   ·exact ⟨_, _, .inl rfl⟩
   ·exact ⟨_, .any, .inr ⟨_, rfl⟩⟩
   ·cases hi
  ·cases h
 ·cases h
theorem Xbh {rs : List RV} {K : V → Prop} : ∀ (s : FSt) (sl : Xb) (ob : Objs) (v : V), Xw2 R L F rs s sl ob = some v → K v → fwp P rs K s sl ob
 | .pre s r, sl, ob, v, h, hK => by
  simp only [Xw2] at h
  simp only [fwp]
  refine S.run_sound (L := L) hR s _ _ _ ?_
  split at h
  ·rename_i e; rw [e]; exact Xbh r _ _ v h hK
  ·rename_i e; rw [e]; exact Yv h hK
  ·cases h
 | .dfr its keep k s, sl, ob, v, h, hK => by
  simp only [Xw2] at h
  simp only [fwp]
  refine Yu hR _ _ _ ?_
  split at h
  ·rename_i sl' ob' e
   rw [e]
   simp only [Rq.to]
   split at h
   ·rename_i g fi ca e2
    rw [e2]
    rw [Bool.cond_eq_ite] at h
    split at h
    ·rename_i hc
     exact ⟨hR.ca _ hc, S.run_sound (L := L) hR s _ _ _ (Xf3 hm hF hR h hK)⟩
    ·cases h
   ·cases h
  ·cases h
theorem Xdb {f : Nat} {ds : List D} {v : V} {ob : Objs} {K : V → Prop} (h : pcD R L F f ds = some v) (hK : K v) : PCall P f (ds.map .d) ob K := by
 unfold pcD at h
 split at h
 ·rename_i s rs n hl
  rw [Bool.cond_eq_ite] at h
  split at h
  ·rename_i e
   have e : n = ds.length := Nat.eq_of_beq_eq_true e
   subst e
   exact Xas hm (hF f _ hl).1 (S.run_sound (L := L) hR s _ _ _ (Xe8 h hK))
  ·cases h
 ·rename_i s rs n hl
  rw [Bool.cond_eq_ite] at h
  split at h
  ·rename_i e
   have e : n = ds.length := Nat.eq_of_beq_eq_true e
   subst e
   exact Jz hm (hF f _ hl).1 (Xbh hm hF hR s _ _ v h hK)
  ·cases h
 ·cases h
theorem Xej {X : Fns} (hX : X.ok P) {f : Nat} {ds : List D} {v : V} {ob : Objs} {K : V → Prop} (h : pcX X R L F f ds ob = some v) (hK : K v) : PCall P f (ds.map .d) ob K := by
 unfold pcX at h
 split at h
 ·rename_i r hr; cases h; exact (hX.pc _ _ _ _ hr).mono fun v' e => by subst e; exact hK
 ·exact Xdb hm hF hR h hK
theorem Xml {X : Fns} (hX : X.ok P) {f : Nat} {vs : List V} {v : V} {ob : Objs} (h : pcR X R L F f vs ob = some v) : PCall P f vs ob fun v' => v' = v := by
 unfold pcR at h
 split at h
 ·rename_i ds hd
  rw [V.allD_map hd]
  exact Xej hm hF hR hX h rfl
 ·split at h
  ·rename_i ds hd
   unfold X0w at h
   split at h
   ·rename_i v' hv
    rw [Bool.cond_eq_ite] at h
    split at h
    ·rename_i hfl
     cases h
     exact PCall.borrow hd (Xej hm hF hR hX hv ⟨hfl, rfl⟩)
    ·cases h
   ·cases h
  ·cases h
theorem Xne {f : Nat} {vs : List V} {o : Out} {ob b : Objs} (h : acR R L F f vs ob = some (o, b)) : ACall P f vs ob fun o' b' => o' = o ∧ b' = b := by
 unfold acR at h
 split at h
 ·rename_i s rs n hl
  rw [Bool.cond_eq_ite] at h
  split at h
  ·rename_i e
   have e : n = vs.length := Nat.eq_of_beq_eq_true e
   subst e
   exact Xbb hm (hF f _ hl).1 (S.run_sound (L := L) hR s _ _ _ (Xfv h ⟨rfl, rfl⟩))
  ·cases h
 ·rename_i s rs n hl
  rw [Bool.cond_eq_ite] at h
  split at h
  ·rename_i e
   have e : n = vs.length := Nat.eq_of_beq_eq_true e
   subst e
   exact Xfb hm (hF f _ hl).1 (S.run_sound (L := L) hR s _ _ _ (Xes h ⟨rfl, rfl⟩))
  ·cases h
 ·split at h
  ·rename_i ds hd
   rw [Option.map_eq_some_iff] at h
   obtain ⟨v, hv, e⟩ := h
   cases e
   rw [V.allD_map hd]
   exact PCall.acall (Xdb hm hF hR hv ⟨rfl, rfl⟩)
  ·cases h
 ·cases h
end
theorem Xyv {p : Program} {F : FT} (hF : FT.ok p F) (f : Nat) (h : (Xel F f).isSome = true) : Xg p f = true := by
 obtain ⟨x, hx⟩ := Option.isSome_iff_exists.1 h
 exact (hF f x hx).2
theorem Xbd {P : Prg} {L : Nat} {F : FT} {X : Fns} (hm : P.p.follows .mixedOrders = true) (hF : FT.ok P.p F) (hX : X.ok P) : ∀ n, (fns L F X n).ok P
 | 0 => hX
 | n + 1 => by
  refine ⟨fun f vs ob o b h => ?_, fun f vs ob v h => ?_, fun f h => ?_, fun g x h => hX.gl g x h⟩
  ·simp only [fns] at h
   split at h
   ·rename_i r hr; cases h; exact hX.call _ _ _ _ _ hr
   ·exact Xne hm hF (Xbd hm hF hX n) h
  ·simp only [fns] at h
   exact Xml hm hF (Xbd hm hF hX n) hX h
  ·simp only [fns, Bool.or_eq_true] at h
   rcases h with h | h
   ·exact Xyv hF f h
   ·exact hX.ca f h
end Go.Ab
/- The table of the functions' texts for the evaluator, written by a program; that it is right is checked by the kernel. No condition. -/
namespace Go.Proofs.YtmapdjjigmkbfaaGreatDoor
open Go Go.Ab
set_option maxRecDepth 100000
def Xjz : FT := [(39, .pl X1q [.t 2] 1),
 (43, .rc Xm9 Xss 6 X3x 3),
 (44, .pl X2x [.c 0 256 true] 0),
 (45, .pl X2n [] 1),
 (46, .pl X3r [] 1),
 (47, .pl X2o [] 1),
 (48, .pl X3y [] 1),
 (49, .pl X4f [] 1),
 (50, .pl X2g [.t 2] 1),
 (51, .pl X3m [.t 4] 2),
 (52, .pl X16 [.t 4, .t 5] 2),
 (54, .pl X3u [.t 2] 1),
 (96, .pl X2s [.t 4] 2),
 (97, .pl X29 [.t 3] 2),
 (98, .pl X30 [] 3),
 (99, .pl X32 [.t 3] 2),
 (100, .pl Xt2 [.t 4] 2),
 (101, .pl Xsy [.t 2] 1),
 (129, .pl Xvl [.t 4] 2),
 (10, .df X76 [.c 4 17 true, .c 5 1 false, .c 6 1 false] 2),
 (14, .pl X51 [.t 4, .t 5] 2),
 (23, .pl X5f [.c 0 7 true] 0),
 (25, .rc Xrx Xym 7 X8n 3),
 (26, .pl X7v [.t 2] 1),
 (27, .kp X6u [.c 2 18 true] 1),
 (28, .pl X5i [.c 4 17 true] 2),
 (38, .pl X6i [] 2),
 (59, .pl X6v [.c 1 14 true] 1),
 (60, .pl X77 [.t 2] 1),
 (61, .pl X8o [.c 1 14 true] 1),
 (62, .pl X40 [.c 1 14 true] 1),
 (63, .pl X7n [.c 6 4 true] 3),
 (64, .pl X54 [.c 1 14 true] 1),
 (65, .pl X7y [.t 2] 1),
 (66, .pl X7d [.t 8] 4),
 (67, .pl X46 [.t 6] 3),
 (68, .pl X6e [.c 2 14 true] 1),
 (69, .pl X6p [] 1),
 (70, .pl X7s [.t 4] 2),
 (72, .pl X71 [] 2),
 (91, .pl X6y [] 2),
 (111, .pl Xy8 [.c 2 5 true] 1),
 (112, .pl Xyj [.t 2] 1),
 (115, .pl X0k [.t 4] 2),
 (116, .pl Xy7 [] 2),
 (8, .pl ir8 [.t 0] 0),
 (21, .pl X8s [.c 4 32 true, .t 5] 2),
 (22, .pl X7w [.c 4 32 true] 2),
 (58, .pl X5h [.c 2 32 true] 1),
 (109, .pl Xz9 [] 2),
 (110, .pl X0s [] 2),
 (134, .pl X0j [.t 4] 2),
 (20, .pl X2l [.t 6] 3),
 (40, .pl X3p [.t 4, .t 5] 2),
 (56, .pl X18 [.c 4 6 true, .t 5] 2),
 (57, .pl X1z [.t 6] 3),
 (71, .pl X13 [.t 4, .t 5] 2),
 (92, .pl X27 [.t 6, .t 7] 3),
 (94, .pl X1p [.t 4] 2),
 (105, .pl Xsz [.c 6 6 true, .t 7] 3),
 (106, .pl Xus [.t 4] 2),
 (107, .pl Xte [.t 4] 2),
 (108, .pl Xs8 [.t 4] 2),
 (113, .pl Xtx [.t 6, .t 7] 3),
 (125, .pl Xu6 [.t 4] 2),
 (126, .pl Xwa [.t 4] 3),
 (127, .pl Xwe [.c 4 4 true, .t 5] 2),
 (128, .pl Xt4 [.t 2] 1),
 (135, .pl Xuu [.t 4] 2),
 (136, .pl Xs0 [.t 4] 3),
 (137, .pl Xv8 [.t 6, .t 7] 3),
 (147, .pl Xvy [.t 4] 2),
 (148, .pl Xuo [.t 4] 2),
 (149, .pl Xv9 [.t 4] 2),
 (150, .pl Xs3 [.t 4] 2),
 (151, .pl Xtn [.t 2] 1),
 (152, .pl Xt7 [.t 6, .t 7] 3),
 (166, .pl Xv7 [.t 4] 2),
 (167, .pl Xub [.t 4] 3),
 (93, .pl X1t [.t 2] 1),
 (114, .pl Xt8 [.t 2] 1),
 (153, .pl Xt6 [.t 2] 1),
 (133, .pl Xvi [.c 0 5 true] 0),
 (15, .pl X4p [.t 4] 2),
 (41, .pl X3d [.t 2] 1),
 (42, .pl X4l [.t 6] 3),
 (95, .pl X26 [.t 4] 2),
 (18, .pl X23 [.c 2 1 false] 1),
 (55, .pl X1y [] 3)]
theorem Xbw : FT.ok Tryz.prog Xjz :=
 FT.ok_cons X8e (by kernel_rfl)
 (FT.ok_cons X3z (by kernel_rfl)
 (FT.ok_cons X61 (by kernel_rfl)
 (FT.ok_cons X7z (by kernel_rfl)
 (FT.ok_cons X8a (by kernel_rfl)
 (FT.ok_cons X48 (by kernel_rfl)
 (FT.ok_cons X7m (by kernel_rfl)
 (FT.ok_cons X6q (by kernel_rfl)
 (FT.ok_cons ok50 (by kernel_rfl)
 (FT.ok_cons ok51 (by kernel_rfl)
 (FT.ok_cons ok52 (by kernel_rfl)
 (FT.ok_cons ok54 (by kernel_rfl)
 (FT.ok_cons X8q (by kernel_rfl)
 (FT.ok_cons X8i (by kernel_rfl)
 (FT.ok_cons X5z (by kernel_rfl)
 (FT.ok_cons X6c (by kernel_rfl)
 (FT.ok_cons Xya (by kernel_rfl)
 (FT.ok_cons Xyd (by kernel_rfl)
 (FT.ok_cons Xzu (by kernel_rfl)
 (FT.ok_cons X94 (by kernel_rfl)
 (FT.ok_cons X91 (by kernel_rfl)
 (FT.ok_cons X93 (by kernel_rfl)
 (FT.ok_cons Ya0 (by kernel_rfl)
 (FT.ok_cons X9w (by kernel_rfl)
 (FT.ok_cons X9r (by kernel_rfl)
 (FT.ok_cons Ybe (by kernel_rfl)
 (FT.ok_cons X9j (by kernel_rfl)
 (FT.ok_cons Yae (by kernel_rfl)
 (FT.ok_cons X9i (by kernel_rfl)
 (FT.ok_cons X9s (by kernel_rfl)
 (FT.ok_cons Yax (by kernel_rfl)
 (FT.ok_cons Ybo (by kernel_rfl)
 (FT.ok_cons X9m (by kernel_rfl)
 (FT.ok_cons Ybb (by kernel_rfl)
 (FT.ok_cons Ya7 (by kernel_rfl)
 (FT.ok_cons Yam (by kernel_rfl)
 (FT.ok_cons X9f (by kernel_rfl)
 (FT.ok_cons Ybt (by kernel_rfl)
 (FT.ok_cons X92 (by kernel_rfl)
 (FT.ok_cons X9h (by kernel_rfl)
 (FT.ok_cons Ya1 (by kernel_rfl)
 (FT.ok_cons X2i (by kernel_rfl)
 (FT.ok_cons X25 (by kernel_rfl)
 (FT.ok_cons X4g (by kernel_rfl)
 (FT.ok_cons X1x (by kernel_rfl)
 (FT.ok_cons ok8 (by kernel_rfl)
 (FT.ok_cons Ybc (by kernel_rfl)
 (FT.ok_cons Yak (by kernel_rfl)
 (FT.ok_cons X9o (by kernel_rfl)
 (FT.ok_cons X4b (by kernel_rfl)
 (FT.ok_cons X2a (by kernel_rfl)
 (FT.ok_cons X3n (by kernel_rfl)
 (FT.ok_cons X4q (by kernel_rfl)
 (FT.ok_cons X5l (by kernel_rfl)
 (FT.ok_cons X4x (by kernel_rfl)
 (FT.ok_cons X5w (by kernel_rfl)
 (FT.ok_cons X6a (by kernel_rfl)
 (FT.ok_cons X5y (by kernel_rfl)
 (FT.ok_cons X66 (by kernel_rfl)
 (FT.ok_cons Xz7 (by kernel_rfl)
 (FT.ok_cons Xxx (by kernel_rfl)
 (FT.ok_cons Xyg (by kernel_rfl)
 (FT.ok_cons Xzw (by kernel_rfl)
 (FT.ok_cons Xzp (by kernel_rfl)
 (FT.ok_cons Xxy (by kernel_rfl)
 (FT.ok_cons Xx9 (by kernel_rfl)
 (FT.ok_cons Xx2 (by kernel_rfl)
 (FT.ok_cons X0p (by kernel_rfl)
 (FT.ok_cons X0i (by kernel_rfl)
 (FT.ok_cons X0d (by kernel_rfl)
 (FT.ok_cons Xzl (by kernel_rfl)
 (FT.ok_cons Xyy (by kernel_rfl)
 (FT.ok_cons Xxv (by kernel_rfl)
 (FT.ok_cons X0u (by kernel_rfl)
 (FT.ok_cons Xxr (by kernel_rfl)
 (FT.ok_cons Xzo (by kernel_rfl)
 (FT.ok_cons Xz6 (by kernel_rfl)
 (FT.ok_cons Xxs (by kernel_rfl)
 (FT.ok_cons Xyh (by kernel_rfl)
 (FT.ok_cons X64 (by kernel_rfl)
 (FT.ok_cons Xyx (by kernel_rfl)
 (FT.ok_cons Xxt (by kernel_rfl)
 (FT.ok_cons Xw6 (by kernel_rfl)
 (FT.ok_cons X49 (by kernel_rfl)
 (FT.ok_cons X65 (by kernel_rfl)
 (FT.ok_cons X75 (by kernel_rfl)
 (FT.ok_cons X6n (by kernel_rfl)
 (FT.ok_cons X6t (by kernel_rfl)
 (FT.ok_cons X4e (by kernel_rfl)
 (FT.ok_nil)))))))))))))))))))))))))))))))))))))))))))))))))))))))))))))))))))))))))))))))))))))))))
end Go.Proofs.YtmapdjjigmkbfaaGreatDoor
/- Contracts: names, signs and numbers of the document. Condition: the program is the seat's. -/
namespace Go.Lx
open Go Go.Ab
def Xb5 : Int → List UInt8 → Option Int
 | n, [] => some n
 | n, c :: r => if 1099511627776 < 10 * n + (c.toNat - 48) then none else Xb5 (10 * n + (c.toNat - 48)) r
theorem Xjn {s : List UInt8} {k : Nat} {n : Int} (h : k < s.length) : Xb5 n (s.drop k) = if 1099511627776 < 10 * n + ((s[k]?.getD 0).toNat - 48) then none else Xb5 (10 * n + ((s[k]?.getD 0).toNat - 48)) (s.drop (k + 1)) := by
 rw [List.drop_eq_getElem_cons h]
 simp [Xb5, h]
end Go.Lx
namespace Go.Proofs.YtmapdjjigmkbfaaGreatDoor
open Go Go.Ab Go.Lx
set_option maxRecDepth 100000
section
variable {P : Prg} (hP : P.p = Tryz.prog)
include hP
end
end Go.Proofs.YtmapdjjigmkbfaaGreatDoor
/- Slices of tokens. No program. -/
namespace Go.Lx
open Go Go.Ab
def TD (a : D) (l : List Tok) : Prop := a = Xt9 l ∨ a = .nils ∧ l = []
section
variable {a : D} {l : List Tok} (h : TD a l)
include h
theorem TD.len : J3 (.d a) = .d (.int .i64 l.length) := by rcases h with rfl | ⟨rfl, rfl⟩ <;> simp [Xt9]
theorem TD.lenS (ob : Objs) : Xab ob (.d a) = True := by rcases h with rfl | ⟨rfl, rfl⟩ <;> simp [Xt9]
theorem TD.idxS (ob : Objs) (k : IntKind) (i : Int) : Xdu ob 4 (.d a) (.d (.int k i)) = (0 ≤ i ∧ i < l.length) := by
 rcases h with rfl | ⟨rfl, rfl⟩
 ·simp [Xt9]
 ·simp [Xdu, Qd]
theorem TD.idx {k : IntKind} {i : Nat} (hi : i < l.length) : Xep 4 (.d a) (.d (.int k i)) = .d (.ref (l[i]?.getD default).enc) := by
 rcases h with rfl | ⟨rfl, rfl⟩
 ·simp [Xt9, hi]
 ·simp at hi
end
end Go.Lx
/- The lexer as a plain function of bytes. No program. -/
namespace Go.Lx
open Go Go.Ab

def J4 (c : UInt8) : Bool := Zm c.toNat
def Xz (c : UInt8) : Bool := Jk c.toNat
def Xht (c : UInt8) : Bool := Xq7 c.toNat
def Zl (c : UInt8) : Bool := Xgb c.toNat
def signB (c : UInt8) : Bool := signI c.toNat
def Vg (c : UInt8) : Bool := c != 10

inductive St where
 | skip (n : Nat)
 | tok (k : Int) (t : List UInt8) (m : Int) (n : Nat)
 | err

def Xcz (t : List UInt8) : Option Int := match Xb5 0 t with
 | none => none
 | some n => if t.length = 1 ∨ t.headD 0 ≠ 48 then some n else none

def stp (c : UInt8) (r : List UInt8) : St :=
 if Xht c then .skip 0
 else if c = 47 ∧ r.head? = some 47 then .skip (r.takeWhile Vg).length
 else if J4 c then
  if (r.takeWhile Zl).length + 1 ≤ 32 then .tok 1 (c :: r.takeWhile Zl) 0 (r.takeWhile Zl).length else .err
 else if Xz c then
  match Xcz (c :: r.takeWhile Xz) with
  | some n => .tok 2 [] n (r.takeWhile Xz).length
  | none => .err
 else if signB c then .tok 3 [c] 0 0 else .err

inductive Res where
 | ok (l : List Tok)
 | err (at_ : Nat)

def X0x (t : Tok) : Res → Res
 | .ok l => .ok (t :: l)
 | .err e => .err e
def Xn5 (l : List Tok) : Res → Res
 | .ok l' => .ok (l ++ l')
 | .err e => .err e

def Xc3 : List UInt8 → Nat → Res
 | [], _ => .ok []
 | c :: r, off => match stp c r with
  | .skip n => Xc3 (r.drop n) (off + n + 1)
  | .tok k t m n => X0x ⟨k, t, m, off⟩ (Xc3 (r.drop n) (off + n + 1))
  | .err => .err off
termination_by l => l.length
decreasing_by all_goals (simp only [List.length_drop, List.length_cons]; omega)

def X2p : Res → V
 | .ok l => .tup [.d (Xt9 l), .d (.int .i64 0), .d (.int .i64 0)]
 | .err e => .tup [.d .nils, .d (.int .i64 e), .d (.int .i64 90)]
def Xzd (s : List UInt8) : V := if s.length > 65536 then .tup [.d .nils, .d (.int .i64 0), .d (.int .i64 2)] else X2p (Xc3 s 0)

theorem Xpv (r : Res) : Xn5 [] r = r := by cases r <;> rfl
theorem Xc1 (l : List Tok) (t : Tok) (r : Res) : Xn5 l (X0x t r) = Xn5 (l ++ [t]) r := by cases r <;> simp [Xn5, X0x]

def tw (p : UInt8 → Bool) (s : List UInt8) (j : Nat) : Nat := ((s.drop j).takeWhile p).length
theorem X1n {p : UInt8 → Bool} {s : List UInt8} {j : Nat} (h : s.length ≤ j) : tw p s j = 0 := by simp [tw, List.drop_of_length_le h]
theorem Xmz {p : UInt8 → Bool} {s : List UInt8} {j : Nat} (h : j < s.length) (hp : p (s[j]?.getD 0) = true) : tw p s j = tw p s (j + 1) + 1 := by
 simp [h] at hp
 unfold tw
 rw [List.drop_eq_getElem_cons h, List.takeWhile_cons, if_pos hp]; rfl
theorem X3f {p : UInt8 → Bool} {s : List UInt8} {j : Nat} (h : j < s.length) (hp : p (s[j]?.getD 0) = false) : tw p s j = 0 := by
 simp [h] at hp
 unfold tw
 rw [List.drop_eq_getElem_cons h, List.takeWhile_cons, hp]; rfl
theorem Xjq (p : UInt8 → Bool) (s : List UInt8) (j : Nat) (h : j ≤ s.length) : j + tw p s j ≤ s.length := by
 have := (List.takeWhile_sublist p (l := s.drop j)).length_le
 simp [tw] at this ⊢; omega
theorem Zo (p : UInt8 → Bool) : ∀ l : List UInt8, l.takeWhile p = l.take (l.takeWhile p).length
 | [] => rfl
 | c :: r => by
  simp only [List.takeWhile_cons]
  split
  ·simp; exact Zo p r
  ·rfl
theorem Xrk {p : UInt8 → Bool} {x : UInt8} : ∀ {l : List UInt8}, x ∈ l.takeWhile p → p x = true
 | c :: r, h => by
  rw [List.takeWhile_cons] at h
  split at h
  ·rename_i hc
   rcases List.mem_cons.mp h with rfl | h
   ·exact hc
   ·exact Xrk h
  ·cases h
theorem Ww {s : List UInt8} {i : Nat} (h : i < s.length) : s.drop i = (s[i]?.getD 0) :: s.drop (i + 1) := by
 rw [List.drop_eq_getElem_cons h]; simp [h]
theorem Xtr (p : UInt8 → Bool) {s : List UInt8} {i : Nat} (h : i < s.length) (hp : p (s[i]?.getD 0) = true) :
  (s.take (i + tw p s i)).drop i = (s[i]?.getD 0) :: (s.drop (i + 1)).takeWhile p ∧ tw p s i = ((s.drop (i + 1)).takeWhile p).length + 1 := by
 have h1 : tw p s i = ((s.drop (i + 1)).takeWhile p).length + 1 := Xmz h hp
 refine ⟨?_, h1⟩
 rw [List.drop_take, Nat.add_sub_cancel_left, h1, Ww h, List.take_succ_cons, ← Zo]

theorem Xp8 {s : List UInt8} {i off : Nat} (h : s.length ≤ i) : Xc3 (s.drop i) off = .ok [] := by
 rw [List.drop_of_length_le h, Xc3]
theorem Xtk {s : List UInt8} {i : Nat} (h : i < s.length) : Xc3 (s.drop i) i = match stp (s[i]?.getD 0) (s.drop (i + 1)) with
  | .skip n => Xc3 (s.drop (i + n + 1)) (i + n + 1)
  | .tok k t m n => X0x ⟨k, t, m, i⟩ (Xc3 (s.drop (i + n + 1)) (i + n + 1))
  | .err => .err i := by
 rw [Ww h, Xc3]
 cases stp (s[i]?.getD 0) (s.drop (i + 1)) with
 | err => rfl
 | skip n => simp only [List.drop_drop]; congr 2; omega
 | tok k t m n => simp only [List.drop_drop]; congr 3; omega
theorem Xde {s : List UInt8} {i : Nat} : (s.drop i).head? = s[i]? := by simp [List.head?_drop]
end Go.Lx
/- The lexer by fuel, to be computed. No program. -/
namespace Go.Lx
open Go Go.Ab
def Xtu : Nat → List UInt8 → Nat → Res
 | 0, _, _ => .ok []
 | _, [], _ => .ok []
 | f + 1, c :: r, off => match stp c r with
  | .skip n => Xtu f (r.drop n) (off + n + 1)
  | .tok k t m n => X0x ⟨k, t, m, off⟩ (Xtu f (r.drop n) (off + n + 1))
  | .err => .err off
theorem Xfs : ∀ (f : Nat) (s : List UInt8) (off : Nat), s.length ≤ f → Xtu f s off = Xc3 s off
 | 0, s, off, h => by
  have : s = [] := List.length_eq_zero_iff.1 (by omega)
  subst this; simp [Xtu, Xc3]
 | f + 1, [], off, h => by simp [Xtu, Xc3]
 | f + 1, c :: r, off, h => by
  rw [Xtu, Xc3]
  have hl : ∀ n, (r.drop n).length ≤ f := fun n => by simp at h ⊢; omega
  split
  ·rw [Xfs f _ _ (hl _)]; try simp_all
  ·rw [Xfs f _ _ (hl _)]; try simp_all
  ·simp_all
end Go.Lx
/- What the evaluator of the questions' examples knows beside its table. No condition. -/
namespace Go.Lx
open Go Go.Ab
def X0a : D := .agg [.int .u32 1116352408, .int .u32 1899447441, .int .u32 3049323471, .int .u32 3921009573, .int .u32 961987163, .int .u32 1508970993, .int .u32 2453635748, .int .u32 2870763221, .int .u32 3624381080, .int .u32 310598401, .int .u32 607225278, .int .u32 1426881987, .int .u32 1925078388, .int .u32 2162078206, .int .u32 2614888103, .int .u32 3248222580, .int .u32 3835390401, .int .u32 4022224774, .int .u32 264347078, .int .u32 604807628, .int .u32 770255983, .int .u32 1249150122, .int .u32 1555081692, .int .u32 1996064986, .int .u32 2554220882, .int .u32 2821834349, .int .u32 2952996808, .int .u32 3210313671, .int .u32 3336571891, .int .u32 3584528711, .int .u32 113926993, .int .u32 338241895, .int .u32 666307205, .int .u32 773529912, .int .u32 1294757372, .int .u32 1396182291, .int .u32 1695183700, .int .u32 1986661051, .int .u32 2177026350, .int .u32 2456956037, .int .u32 2730485921, .int .u32 2820302411, .int .u32 3259730800, .int .u32 3345764771, .int .u32 3516065817, .int .u32 3600352804, .int .u32 4094571909, .int .u32 275423344, .int .u32 430227734, .int .u32 506948616, .int .u32 659060556, .int .u32 883997877, .int .u32 958139571, .int .u32 1322822218, .int .u32 1537002063, .int .u32 1747873779, .int .u32 1955562222, .int .u32 2024104815, .int .u32 2227730452, .int .u32 2361852424, .int .u32 2428436474, .int .u32 2756734187, .int .u32 3204031479, .int .u32 3329325298]
def X5q : D := .agg [.int .u8 31, .int .u8 80, .int .u8 135, .int .u8 219, .int .u8 145, .int .u8 156, .int .u8 237, .int .u8 92, .int .u8 18, .int .u8 60, .int .u8 127, .int .u8 80, .int .u8 125, .int .u8 63, .int .u8 204, .int .u8 232, .int .u8 24, .int .u8 203, .int .u8 12, .int .u8 246, .int .u8 231, .int .u8 124, .int .u8 47, .int .u8 149, .int .u8 168, .int .u8 163, .int .u8 94, .int .u8 149, .int .u8 30, .int .u8 3, .int .u8 253, .int .u8 185]
def X7p : D := .list 1 [.int .u8 31, .int .u8 80, .int .u8 135, .int .u8 219, .int .u8 145, .int .u8 156, .int .u8 237, .int .u8 92, .int .u8 18, .int .u8 60, .int .u8 127, .int .u8 80, .int .u8 125, .int .u8 63, .int .u8 204, .int .u8 232, .int .u8 24, .int .u8 203, .int .u8 12, .int .u8 246, .int .u8 231, .int .u8 124, .int .u8 47, .int .u8 149, .int .u8 168, .int .u8 163, .int .u8 94, .int .u8 149, .int .u8 30, .int .u8 3, .int .u8 253, .int .u8 185]
def X80 : D := .agg [.int .u8 245, .int .u8 130, .int .u8 95, .int .u8 56, .int .u8 178, .int .u8 131, .int .u8 52, .int .u8 248, .int .u8 69, .int .u8 175, .int .u8 109, .int .u8 205, .int .u8 19, .int .u8 159, .int .u8 111, .int .u8 163, .int .u8 102, .int .u8 117, .int .u8 229, .int .u8 99, .int .u8 147, .int .u8 61, .int .u8 67, .int .u8 81, .int .u8 101, .int .u8 242, .int .u8 184, .int .u8 139, .int .u8 157, .int .u8 241, .int .u8 225, .int .u8 45]
def X82 : List UInt8 := [97, 115, 107, 32, 111, 108, 100, 32, 102, 111, 114, 32, 99, 108, 117, 98, 32, 123, 32, 102, 114, 111, 109, 32, 112, 32, 98, 105, 114, 116, 104, 32, 59, 32, 102, 114, 111, 109, 32, 99, 32, 115, 105, 122, 101, 32, 111, 116, 104, 101, 114, 32, 59, 32, 97, 110, 121, 32, 123, 32, 112, 32, 46, 32, 100, 97, 121, 32, 60, 32, 52, 48, 48, 32, 59, 32, 108, 101, 97, 115, 116, 32, 49, 32, 123, 32, 104, 97, 115, 32, 99, 32, 59, 32, 53, 32, 60, 32, 61, 32, 99, 32, 46, 32, 104, 105, 103, 104, 32, 59, 32, 125, 32, 59, 32, 125, 32, 59, 32, 125]
def X52 : List UInt8 := [113, 117, 101, 115, 116, 105, 111, 110]
def bo1 : Objs := [(2, .box 235 (.d (.agg [.int .u8 31, .int .u8 80, .int .u8 135, .int .u8 219, .int .u8 145, .int .u8 156, .int .u8 237, .int .u8 92, .int .u8 18, .int .u8 60, .int .u8 127, .int .u8 80, .int .u8 125, .int .u8 63, .int .u8 204, .int .u8 232, .int .u8 24, .int .u8 203, .int .u8 12, .int .u8 246, .int .u8 231, .int .u8 124, .int .u8 47, .int .u8 149, .int .u8 168, .int .u8 163, .int .u8 94, .int .u8 149, .int .u8 30, .int .u8 3, .int .u8 253, .int .u8 185, .int .u8 97, .int .u8 115, .int .u8 107, .int .u8 32, .int .u8 111, .int .u8 108, .int .u8 100, .int .u8 32, .int .u8 102, .int .u8 111, .int .u8 114, .int .u8 32, .int .u8 99, .int .u8 108, .int .u8 117, .int .u8 98, .int .u8 32, .int .u8 123, .int .u8 32, .int .u8 102, .int .u8 114, .int .u8 111, .int .u8 109, .int .u8 32, .int .u8 112, .int .u8 32, .int .u8 98, .int .u8 105, .int .u8 114, .int .u8 116, .int .u8 104, .int .u8 32]))), (1, .box 202 (.d (.agg [.int .u32 1779033703, .int .u32 3144134277, .int .u32 1013904242, .int .u32 2773480762, .int .u32 1359893119, .int .u32 2600822924, .int .u32 528734635, .int .u32 1541459225]))), (0, .box 76 (.d (.agg [.int .u8 0, .int .u8 0, .int .u8 0, .int .u8 0, .int .u8 0, .int .u8 0, .int .u8 0, .int .u8 0, .int .u8 0, .int .u8 0, .int .u8 0, .int .u8 0, .int .u8 0, .int .u8 0, .int .u8 0, .int .u8 0, .int .u8 0, .int .u8 0, .int .u8 0, .int .u8 0, .int .u8 0, .int .u8 0, .int .u8 0, .int .u8 0, .int .u8 0, .int .u8 0, .int .u8 0, .int .u8 0, .int .u8 0, .int .u8 0, .int .u8 0, .int .u8 0])))]
def bp1 : Objs := [(2, .box 235 (.d (.agg [.int .u8 31, .int .u8 80, .int .u8 135, .int .u8 219, .int .u8 145, .int .u8 156, .int .u8 237, .int .u8 92, .int .u8 18, .int .u8 60, .int .u8 127, .int .u8 80, .int .u8 125, .int .u8 63, .int .u8 204, .int .u8 232, .int .u8 24, .int .u8 203, .int .u8 12, .int .u8 246, .int .u8 231, .int .u8 124, .int .u8 47, .int .u8 149, .int .u8 168, .int .u8 163, .int .u8 94, .int .u8 149, .int .u8 30, .int .u8 3, .int .u8 253, .int .u8 185, .int .u8 97, .int .u8 115, .int .u8 107, .int .u8 32, .int .u8 111, .int .u8 108, .int .u8 100, .int .u8 32, .int .u8 102, .int .u8 111, .int .u8 114, .int .u8 32, .int .u8 99, .int .u8 108, .int .u8 117, .int .u8 98, .int .u8 32, .int .u8 123, .int .u8 32, .int .u8 102, .int .u8 114, .int .u8 111, .int .u8 109, .int .u8 32, .int .u8 112, .int .u8 32, .int .u8 98, .int .u8 105, .int .u8 114, .int .u8 116, .int .u8 104, .int .u8 32]))), (1, .box 202 (.d (.agg [.int .u32 3353024799, .int .u32 3401748870, .int .u32 3158369745, .int .u32 740706947, .int .u32 2987156969, .int .u32 2150010247, .int .u32 291726018, .int .u32 4028775330]))), (0, .box 76 (.d (.agg [.int .u8 0, .int .u8 0, .int .u8 0, .int .u8 0, .int .u8 0, .int .u8 0, .int .u8 0, .int .u8 0, .int .u8 0, .int .u8 0, .int .u8 0, .int .u8 0, .int .u8 0, .int .u8 0, .int .u8 0, .int .u8 0, .int .u8 0, .int .u8 0, .int .u8 0, .int .u8 0, .int .u8 0, .int .u8 0, .int .u8 0, .int .u8 0, .int .u8 0, .int .u8 0, .int .u8 0, .int .u8 0, .int .u8 0, .int .u8 0, .int .u8 0, .int .u8 0])))]
def bo2 : Objs := [(2, .box 235 (.d (.agg [.int .u8 59, .int .u8 32, .int .u8 102, .int .u8 114, .int .u8 111, .int .u8 109, .int .u8 32, .int .u8 99, .int .u8 32, .int .u8 115, .int .u8 105, .int .u8 122, .int .u8 101, .int .u8 32, .int .u8 111, .int .u8 116, .int .u8 104, .int .u8 101, .int .u8 114, .int .u8 32, .int .u8 59, .int .u8 32, .int .u8 97, .int .u8 110, .int .u8 121, .int .u8 32, .int .u8 123, .int .u8 32, .int .u8 112, .int .u8 32, .int .u8 46, .int .u8 32, .int .u8 100, .int .u8 97, .int .u8 121, .int .u8 32, .int .u8 60, .int .u8 32, .int .u8 52, .int .u8 48, .int .u8 48, .int .u8 32, .int .u8 59, .int .u8 32, .int .u8 108, .int .u8 101, .int .u8 97, .int .u8 115, .int .u8 116, .int .u8 32, .int .u8 49, .int .u8 32, .int .u8 123, .int .u8 32, .int .u8 104, .int .u8 97, .int .u8 115, .int .u8 32, .int .u8 99, .int .u8 32, .int .u8 59, .int .u8 32, .int .u8 53, .int .u8 32]))), (1, .box 202 (.d (.agg [.int .u32 3353024799, .int .u32 3401748870, .int .u32 3158369745, .int .u32 740706947, .int .u32 2987156969, .int .u32 2150010247, .int .u32 291726018, .int .u32 4028775330]))), (0, .box 76 (.d (.agg [.int .u8 0, .int .u8 0, .int .u8 0, .int .u8 0, .int .u8 0, .int .u8 0, .int .u8 0, .int .u8 0, .int .u8 0, .int .u8 0, .int .u8 0, .int .u8 0, .int .u8 0, .int .u8 0, .int .u8 0, .int .u8 0, .int .u8 0, .int .u8 0, .int .u8 0, .int .u8 0, .int .u8 0, .int .u8 0, .int .u8 0, .int .u8 0, .int .u8 0, .int .u8 0, .int .u8 0, .int .u8 0, .int .u8 0, .int .u8 0, .int .u8 0, .int .u8 0])))]
def bp2 : Objs := [(2, .box 235 (.d (.agg [.int .u8 59, .int .u8 32, .int .u8 102, .int .u8 114, .int .u8 111, .int .u8 109, .int .u8 32, .int .u8 99, .int .u8 32, .int .u8 115, .int .u8 105, .int .u8 122, .int .u8 101, .int .u8 32, .int .u8 111, .int .u8 116, .int .u8 104, .int .u8 101, .int .u8 114, .int .u8 32, .int .u8 59, .int .u8 32, .int .u8 97, .int .u8 110, .int .u8 121, .int .u8 32, .int .u8 123, .int .u8 32, .int .u8 112, .int .u8 32, .int .u8 46, .int .u8 32, .int .u8 100, .int .u8 97, .int .u8 121, .int .u8 32, .int .u8 60, .int .u8 32, .int .u8 52, .int .u8 48, .int .u8 48, .int .u8 32, .int .u8 59, .int .u8 32, .int .u8 108, .int .u8 101, .int .u8 97, .int .u8 115, .int .u8 116, .int .u8 32, .int .u8 49, .int .u8 32, .int .u8 123, .int .u8 32, .int .u8 104, .int .u8 97, .int .u8 115, .int .u8 32, .int .u8 99, .int .u8 32, .int .u8 59, .int .u8 32, .int .u8 53, .int .u8 32]))), (1, .box 202 (.d (.agg [.int .u32 1133438781, .int .u32 3720667108, .int .u32 2822332097, .int .u32 2789580547, .int .u32 2280602201, .int .u32 3609626632, .int .u32 2609829547, .int .u32 413238801]))), (0, .box 76 (.d (.agg [.int .u8 0, .int .u8 0, .int .u8 0, .int .u8 0, .int .u8 0, .int .u8 0, .int .u8 0, .int .u8 0, .int .u8 0, .int .u8 0, .int .u8 0, .int .u8 0, .int .u8 0, .int .u8 0, .int .u8 0, .int .u8 0, .int .u8 0, .int .u8 0, .int .u8 0, .int .u8 0, .int .u8 0, .int .u8 0, .int .u8 0, .int .u8 0, .int .u8 0, .int .u8 0, .int .u8 0, .int .u8 0, .int .u8 0, .int .u8 0, .int .u8 0, .int .u8 0])))]
def bo3 : Objs := [(2, .box 235 (.d (.agg [.int .u8 60, .int .u8 32, .int .u8 61, .int .u8 32, .int .u8 99, .int .u8 32, .int .u8 46, .int .u8 32, .int .u8 104, .int .u8 105, .int .u8 103, .int .u8 104, .int .u8 32, .int .u8 59, .int .u8 32, .int .u8 125, .int .u8 32, .int .u8 59, .int .u8 32, .int .u8 125, .int .u8 32, .int .u8 59, .int .u8 32, .int .u8 125, .int .u8 128, .int .u8 0, .int .u8 0, .int .u8 0, .int .u8 0, .int .u8 0, .int .u8 0, .int .u8 0, .int .u8 0, .int .u8 0, .int .u8 0, .int .u8 0, .int .u8 0, .int .u8 0, .int .u8 0, .int .u8 0, .int .u8 0, .int .u8 0, .int .u8 0, .int .u8 0, .int .u8 0, .int .u8 0, .int .u8 0, .int .u8 0, .int .u8 0, .int .u8 0, .int .u8 0, .int .u8 0, .int .u8 0, .int .u8 0, .int .u8 0, .int .u8 0, .int .u8 0, .int .u8 0, .int .u8 0, .int .u8 0, .int .u8 0, .int .u8 0, .int .u8 4, .int .u8 192]))), (1, .box 202 (.d (.agg [.int .u32 1133438781, .int .u32 3720667108, .int .u32 2822332097, .int .u32 2789580547, .int .u32 2280602201, .int .u32 3609626632, .int .u32 2609829547, .int .u32 413238801]))), (0, .box 76 (.d (.agg [.int .u8 0, .int .u8 0, .int .u8 0, .int .u8 0, .int .u8 0, .int .u8 0, .int .u8 0, .int .u8 0, .int .u8 0, .int .u8 0, .int .u8 0, .int .u8 0, .int .u8 0, .int .u8 0, .int .u8 0, .int .u8 0, .int .u8 0, .int .u8 0, .int .u8 0, .int .u8 0, .int .u8 0, .int .u8 0, .int .u8 0, .int .u8 0, .int .u8 0, .int .u8 0, .int .u8 0, .int .u8 0, .int .u8 0, .int .u8 0, .int .u8 0, .int .u8 0])))]
def bp3 : Objs := [(2, .box 235 (.d (.agg [.int .u8 60, .int .u8 32, .int .u8 61, .int .u8 32, .int .u8 99, .int .u8 32, .int .u8 46, .int .u8 32, .int .u8 104, .int .u8 105, .int .u8 103, .int .u8 104, .int .u8 32, .int .u8 59, .int .u8 32, .int .u8 125, .int .u8 32, .int .u8 59, .int .u8 32, .int .u8 125, .int .u8 32, .int .u8 59, .int .u8 32, .int .u8 125, .int .u8 128, .int .u8 0, .int .u8 0, .int .u8 0, .int .u8 0, .int .u8 0, .int .u8 0, .int .u8 0, .int .u8 0, .int .u8 0, .int .u8 0, .int .u8 0, .int .u8 0, .int .u8 0, .int .u8 0, .int .u8 0, .int .u8 0, .int .u8 0, .int .u8 0, .int .u8 0, .int .u8 0, .int .u8 0, .int .u8 0, .int .u8 0, .int .u8 0, .int .u8 0, .int .u8 0, .int .u8 0, .int .u8 0, .int .u8 0, .int .u8 0, .int .u8 0, .int .u8 0, .int .u8 0, .int .u8 0, .int .u8 0, .int .u8 0, .int .u8 0, .int .u8 4, .int .u8 192]))), (1, .box 202 (.d (.agg [.int .u32 4118961976, .int .u32 2994943224, .int .u32 1169124813, .int .u32 329215907, .int .u32 1719002467, .int .u32 2470265681, .int .u32 1710405771, .int .u32 2649874733]))), (0, .box 76 (.d (.agg [.int .u8 0, .int .u8 0, .int .u8 0, .int .u8 0, .int .u8 0, .int .u8 0, .int .u8 0, .int .u8 0, .int .u8 0, .int .u8 0, .int .u8 0, .int .u8 0, .int .u8 0, .int .u8 0, .int .u8 0, .int .u8 0, .int .u8 0, .int .u8 0, .int .u8 0, .int .u8 0, .int .u8 0, .int .u8 0, .int .u8 0, .int .u8 0, .int .u8 0, .int .u8 0, .int .u8 0, .int .u8 0, .int .u8 0, .int .u8 0, .int .u8 0, .int .u8 0])))]
def kgl (g : Nat) : Option D := bif Nat.beq g 0 then some X0a else none
def xh : Fns := ⟨fun _ _ _ => none, fun _ _ _ => none, fun _ => false, kgl⟩
end Go.Lx
