/- Texts of this claim joined by a program, part 4 of 13; the last is: Contract: whether a term is a number. Condition: the program is the seat's. -/
import Derived.Test.YtmapdjjigmkbfaaGreatDoorT1
import Derived.Test.YtmapdjjigmkbfaaGreatDoorT3
import Derived.IntWalk
import Derived.Defers
import Derived.Recover
import Derived.Test.YtmapdjjigmkbfaaGreatDoorProg
import Derived.KernelRfl
set_option linter.unusedSimpArgs false
set_option linter.unusedVariables false
set_option linter.unusedSectionVars false
set_option linter.defProp false
/- Statements Xr7 folded regions. Over any program; no condition. -/
namespace Go.Ab
open Go

theorem Xhu {sl sl' : Xb} : ∀ {ks : List Nat}, (∀ k ∈ ks, look sl k = look sl' k) → Xc sl ks = Xc sl' ks
 | [], _ => rfl
 | k :: r, h => by simp only [Xc]; rw [h k (by simp), Xhu (fun j hj => h j (by simp [hj]))]

theorem X6 {P : Prg} {T : Tab} (hT : TOk P T) {fs keep pk : List Nat} {K K' : Xb → Objs → Prop} {Pn Pn' : V → Xb → Objs → Prop} (hK : ∀ s o, K s o → K' s o) (hP : ∀ v s o, Pn v s o → Pn' v s o) :
  ∀ (its : List It) {σ : Sg} {pe pg : List Nat} {sl sl0 : Xb} {ob : Objs} {l : List It2} {kp : List (Nat × E)}, Inv T σ sl sl0 ob → Ue fs keep pk its σ pe pg = some (l, kp) →
  Z3 P T (fun sl ob => Zf T sl ob kp ∧ K (Wk T sl ob kp) ob) (fun v sl ob => Pn v (Xc sl pk) ob) l sl0 ob → rwp P (fun sl ob => K' (Xc sl keep) ob) (fun v sl ob => Pn' v (Xc sl pk) ob) its sl ob
 | [], σ, pe, pg, sl, sl0, ob, l, kp, hI, h, hr => by
  simp only [Ue] at h
  split at h
  ·rename_i c1 c2 kp' h1 h2 h3
   cases h
   obtain ⟨_, hr⟩ := X8 hI h1 hr
   obtain ⟨_, hr⟩ := X8 hI (l := []) h2 (by simpa using hr)
   simp only [Z3] at hr
   simp only [rwp]
   rw [← (Vc hI h3).1]
   exact hK _ _ hr.2
  ·cases h
 | it :: r, σ, pe, pg, sl, sl0, ob, l, kp, hI, h, hr => by
  simp only [Ue] at h
  split at h
  ·cases h
  ·rename_i p gs hp
   split at h
   ·rename_i k e hd he
    split at h
    ·rename_i hc
     simp only [Bool.and_eq_true, Bool.not_eq_true', List.contains_eq_mem, decide_eq_false_iff_not] at hc
     obtain ⟨⟨⟨c1, c2⟩, c3⟩, c4⟩ := hc
     have go : ∀ v, (Xj sl p = true → v = e.val T sl0 ob) → (Xj sl p = false → v = .undef) → rwp P (fun sl ob => K' (Xc sl keep) ob) (fun v sl ob => Pn' v (Xc sl pk) ob) r ((k, v) :: sl) ob :=
      fun v h1 h2 => X6 hT hK hP r (hI.fold' (e := e) c1 c2 h1 h2) h hr
     have hI' := hI.fold' (e := e) c1 c2 (v := Xcm (Xj sl p) (e.val T sl0 ob)) (fun h => by rw [h]; rfl) (fun h => by rw [h]; rfl)
     obtain ⟨a, hok⟩ := Xen hI he c1 c2 c3 c4 (Xk6 r hI' h hr)
     cases it with
     | op d i =>
      simp only [It.d] at hd; subst hd
      simp only [It.path] at hp; cases hp
      simp only [rwp]
      exact I.lift_sound hT hI rfl he (hok rfl) (go _ (fun _ => rfl) (fun h => by cases h))
     | gop g b d i =>
      simp only [It.d] at hd; subst hd
      simp only [It.path] at hp
      split at hp
      ·rename_i q eg hg
       cases hp
       simp only [rwp]
       cases hq : Xj sl q with
       | false =>
        rw [(hI g q eg hg).2 hq]
        simp only [gdK]
        exact go _ (fun h => by rw [X9, hq] at h; cases h) (fun _ => rfl)
       | true =>
        have hv := (hI g q eg hg).1 hq
        have hb := a.2 g (by simp) q eg hg hq
        have hcg : ∀ j, look ((g, look sl g) :: sl) j = look sl j := fun j => by
         simp only [look]; split
         ·rename_i e; rw [e]
         ·rfl
        have main : ∀ t, look sl g = .d (.bool t) → gdK g b sl (fun sl => I.wp P sl ob (fun v ob' => rwp P (fun sl ob => K' (Xc sl keep) ob) (fun v sl ob => Pn' v (Xc sl pk) ob) r (put sl (some k) v) ob') (fun v ob' => Pn' v (Xc sl pk) ob') i) (fun sl => rwp P (fun sl ob => K' (Xc sl keep) ob) (fun v sl ob => Pn' v (Xc sl pk) ob) r (put sl (some k) .undef) ob) (look sl g) := by
         intro t ht
         rw [ht]
         simp only [gdK]
         have hh : ∀ u, t = u → Inv T σ ((g, .d (.bool u)) :: sl) sl0 ob := fun u e => by
          subst e; rw [← ht]; exact hI.congr hcg
         have hs : ∀ u, t = u → ∀ p, Xj ((g, .d (.bool u)) :: sl) p = Xj sl p := fun u e p => by
          subst e; rw [← ht]; simp only [Xj, hcg]
         refine ⟨fun e1 => ?_, fun e1 => ?_⟩
         ·have hp1 : Xj sl (q ++ [(g, b)]) = true := by rw [X9, hq, ht, e1]; simp [isB]
          refine I.lift_sound hT (hh _ e1) (by rw [hs _ e1]; exact hp1) he (hok hp1) ?_
          refine X6 hT hK hP r ((hh _ e1).fold' (e := e) c1 c2 (fun _ => rfl) (fun h => ?_)) h hr
          rw [hs _ e1, hp1] at h; cases h
         ·have hp1 : Xj sl (q ++ [(g, b)]) = false := by rw [X9, hq, ht, e1]; cases b <;> simp [isB]
          refine X6 hT hK hP r ((hh _ e1).fold' (e := e) c1 c2 (fun h => ?_) (fun _ => rfl)) h hr
          rw [hs _ e1, hp1] at h; cases h
        rcases Xbp hb with hb | hb
        ·exact main true (by rw [hv, hb])
        ·exact main false (by rw [hv, hb])
      ·cases hp
    ·cases h
   ·rename_i d x hd hx
    split at h
    ·rename_i c1 c2 h1 h2
     split at h
     ·rename_i ms σ2 hm
      split at h
      ·rename_i lp hl
       split at h
       ·rename_i hc
        simp only [Bool.and_eq_true, List.all_eq_true, Option.isNone_iff_eq_none] at hc
        obtain ⟨⟨⟨d1, d2⟩, d3⟩, d4⟩ := hc
        split at h
        ·rename_i t kp' ht
         cases h
         obtain ⟨_, hr⟩ := X8 hI h1 hr
         obtain ⟨a2, hr⟩ := X8 hI h2 hr
         obtain ⟨sl1, hI1, hr⟩ := Xa5 hI.kill hm hr
         have hlook : ∀ {s}, Inv T σ2 s sl1 ob → ∀ k, Y1 σ2 k = none → look s k = look sl1 k := fun hI k hk => (hI k [] (.a (.t k)) (by simp [ent, hk])).1 rfl
         have hkeep : ∀ {s}, Inv T σ2 s sl1 ob → Xc s pk = Xc sl1 pk := fun {s} hI => by
          exact Xhu fun k hk => hlook hI k (d4 k hk)
         have step : ∀ {s}, Inv T σ2 s sl1 ob → it.i.wp P sl1 ob (fun v ob' => Z3 P T (fun sl ob => Zf T sl ob kp ∧ K (Wk T sl ob kp) ob) (fun v sl ob => Pn v (Xc sl pk) ob) t (put sl1 it.d v) ob') (fun v ob' => Pn v (Xc sl1 pk) ob') →
           it.i.wp P s ob (fun v ob' => rwp P (fun sl ob => K' (Xc sl keep) ob) (fun v sl ob => Pn' v (Xc sl pk) ob) r (put s it.d v) ob') (fun v ob' => Pn' v (Xc s pk) ob') := fun {s} hI h => by
          rw [I.wp_eq (sl' := sl1) (fun k hk => hlook hI k (d1 k hk))]
          refine I.wp_mono (fun v b hv => ?_) (fun v b hv => ?_) h
          ·exact X6 hT hK hP r (hI.eff d2 d3) ht hv
          ·rw [hkeep hI]; exact hP _ _ _ hv
         cases it with
         | op d' i =>
          simp only [It.eff, Z3] at hr
          simp only [rwp]
          exact step hI1 hr
         | gop g b d' i =>
          simp only [It.eff, Z3] at hr
          simp only [It.path] at hp
          split at hp
          ·rename_i q eg hg
           cases hp
           have hh := Wa hI1 _ _ _ hl rfl
           have none' : ∀ {s}, Inv T σ2 s sl1 ob → Xj sl (q ++ [(g, b)]) = false → rwp P (fun sl ob => K' (Xc sl keep) ob) (fun v sl ob => Pn' v (Xc sl pk) ob) r (put s d' .undef) ob := fun {s} hI hf =>
            X6 hT hK hP r (hI.eff d2 d3) ht (hr.2 (by rw [← hh]; exact hf))
           simp only [rwp]
           cases hq : Xj sl q with
           | false =>
            rw [(hI g q eg hg).2 hq]
            simp only [gdK]
            exact none' hI1 (by rw [X9, hq]; rfl)
           | true =>
            have hv := (hI g q eg hg).1 hq
            have hb := (a2 g (by simp) q eg hg hq).2.1
            have hcg : ∀ j, look ((g, look sl g) :: sl) j = look sl j := fun j => by
             simp only [look]; split
             ·rename_i e; rw [e]
             ·rfl
            have main : ∀ u, look sl g = .d (.bool u) → gdK g b sl (fun sl => I.wp P sl ob (fun v ob' => rwp P (fun sl ob => K' (Xc sl keep) ob) (fun v sl ob => Pn' v (Xc sl pk) ob) r (put sl d' v) ob') (fun v ob' => Pn' v (Xc sl pk) ob') i) (fun sl => rwp P (fun sl ob => K' (Xc sl keep) ob) (fun v sl ob => Pn' v (Xc sl pk) ob) r (put sl d' .undef) ob) (look sl g) := by
             intro u hu
             rw [hu]
             simp only [gdK]
             have hh2 : ∀ w, u = w → Inv T σ2 ((g, .d (.bool w)) :: sl) sl1 ob := fun w e => by
              subst e; rw [← hu]; exact hI1.congr hcg
             refine ⟨fun e1 => ?_, fun e1 => ?_⟩
             ·exact step (hh2 _ e1) (hr.1 (by rw [← hh, X9, hq, hu, e1]; simp [isB]))
             ·exact none' (hh2 _ e1) (by rw [X9, hq, hu, e1]; cases b <;> simp [isB])
            rcases Xbp hb with hb | hb
            ·exact main true (by rw [hv, hb])
            ·exact main false (by rw [hv, hb])
          ·cases hp
        ·cases h
       ·cases h
      ·cases h
     ·cases h
    ·cases h

theorem Xil {P : Prg} {n n' : Xb → Objs → Prop} {Pn Pn' : V → Xb → Objs → Prop} (hn : ∀ sl ob, n sl ob → n' sl ob) (hp : ∀ v sl ob, Pn v sl ob → Pn' v sl ob) : ∀ (x : It) (sl : Xb) (ob : Objs), itK P n Pn x sl ob → itK P n' Pn' x sl ob
 | .op d i, sl, ob, h => by
  simp only [itK] at h ⊢
  exact I.wp_mono (fun _ _ h => hn _ _ h) (fun _ _ h => hp _ _ _ h) h
 | .gop s want d i, sl, ob, h => by
  simp only [itK] at h ⊢
  generalize look sl s = v at h ⊢
  unfold gdK at h; split at h
  ·exact ⟨fun e => I.wp_mono (fun _ _ h => hn _ _ h) (fun _ _ h => hp _ _ _ h) (h.1 e), fun e => hn _ _ (h.2 e)⟩
  ·exact hn _ _ h
  ·exact h.elim
mutual
theorem Xbx {P : Prg} {K K' : Xb → Objs → Prop} {Pn Pn' : V → Xb → Objs → Prop} (hk : ∀ sl ob, K sl ob → K' sl ob) (hp : ∀ v sl ob, Pn v sl ob → Pn' v sl ob) : ∀ (t : Ot) (sl : Xb) (ob : Objs), owp P K Pn t sl ob → owp P K' Pn' t sl ob
 | .done, sl, ob, h => by simp only [owp] at h ⊢; exact hk _ _ h
 | .one _ x r, sl, ob, h => by simp only [owp] at h ⊢; exact Xil (fun sl ob h => Xbx hk hp r sl ob h) hp x sl ob h
 | .br l, sl, ob, h => by simp only [owp] at h ⊢; exact Xdl hk hp l sl ob h
theorem Xdl {P : Prg} {K K' : Xb → Objs → Prop} {Pn Pn' : V → Xb → Objs → Prop} (hk : ∀ sl ob, K sl ob → K' sl ob) (hp : ∀ v sl ob, Pn v sl ob → Pn' v sl ob) : ∀ (t : Ots) (sl : Xb) (ob : Objs), Xc5 P K Pn t sl ob → Xc5 P K' Pn' t sl ob
 | .nil, sl, ob, h => by simp only [Xc5]
 | .cons _ x r l, sl, ob, h => by
  simp only [Xc5] at h ⊢
  exact ⟨Xil (fun sl ob h => Xbx hk hp r sl ob h) hp x sl ob h.1, Xdl hk hp l sl ob h.2⟩
end

inductive S2 where
 | rg (l : List It2) (keep : List (Nat × E)) (pk : List Nat)
 | rgT (t : Ot) (keep pk : List Nat)
 | seq (a b : S2)
 | skip
 | cond (c : A) (a b : S2)
 | block (n : Nat) (a : S2)
 | loop (keep : List Nat) (a : S2)
 | exit (n : Nat)
 | ret

def Yn (P : Prg) (T : Tab) : S2 → Zt → Xb → Objs → Prop
 | .rg l keep pk, Q, sl, ob => Z3 P T (fun sl ob => Zf T sl ob keep ∧ Q .normal (Wk T sl ob keep) ob) (fun v sl ob => Q (.panic v) (Xc sl pk) ob) l sl ob
 | .rgT t keep pk, Q, sl, ob => owp P (fun sl ob => Q .normal (Xc sl keep) ob) (fun v sl ob => Q (.panic v) (Xc sl pk) ob) t sl ob
 | .seq a b, Q, sl, ob => Yn P T a (Zn (Yn P T b Q) Q) sl ob
 | .skip, Q, sl, ob => Q .normal sl ob
 | .cond c a b, Q, sl, ob => Us (Yn P T a Q sl ob) (Yn P T b Q sl ob) (c.ev sl)
 | .block n a, Q, sl, ob => Yn P T a (Yj n Q) sl ob
 | .loop keep a, Q, sl, ob => ALoop keep (Yn P T a) Q sl ob
 | .exit n, Q, sl, ob => Q (.exit n) sl ob
 | .ret, Q, sl, ob => Q .ret sl ob

def S.lift (fs : List Nat) : S → Option S2
 | .rg _ l keep pk => match Ue fs keep pk l [] [] [] with
  | some (l, kp) => some (.rg l kp pk)
  | none => none
 | .rgT _ t keep pk => some (.rgT t keep pk)
 | .seq a b => match a.lift fs, b.lift fs with
  | some a, some b => some (.seq a b)
  | _, _ => none
 | .skip => some .skip
 | .cond c a b => match a.lift fs, b.lift fs with
  | some a, some b => some (.cond c a b)
  | _, _ => none
 | .block n a => match a.lift fs with
  | some a => some (.block n a)
  | none => none
 | .loop keep a => match a.lift fs with
  | some a => some (.loop keep a)
  | none => none
 | .exit n => some (.exit n)
 | .ret => some .ret

theorem S.lift_sound {P : Prg} {T : Tab} (hT : TOk P T) {fs : List Nat} : ∀ (s : S) {s2 : S2} {Q Q' : Zt} {sl : Xb} {ob : Objs}, s.lift fs = some s2 → (∀ e sl ob, Q e sl ob → Q' e sl ob) → Yn P T s2 Q sl ob → cwp P s Q' sl ob
 | .rg o l keep pk, s2, Q, Q', sl, ob, h, hQ, hc => by
  simp only [S.lift] at h
  split at h
  ·rename_i l' kp hl
   cases h
   simp only [Yn] at hc
   simp only [cwp]
   exact X6 hT (K := fun sl ob => Q .normal sl ob) (Pn := fun v sl ob => Q (.panic v) sl ob) (fun _ _ h => hQ _ _ _ h) (fun _ _ _ h => hQ _ _ _ h) l
    (fun k p e h => by simp [ent, Y1] at h; obtain ⟨rfl, rfl⟩ := h; exact ⟨fun _ => rfl, fun h => by cases h⟩) hl hc
  ·cases h
 | .rgT n t keep pk, s2, Q, Q', sl, ob, h, hQ, hc => by
  simp only [S.lift] at h
  cases h
  simp only [Yn] at hc
  simp only [cwp]
  exact Xbx (fun _ _ h => hQ _ _ _ h) (fun _ _ _ h => hQ _ _ _ h) t sl ob hc
 | .seq a b, s2, Q, Q', sl, ob, h, hQ, hc => by
  simp only [S.lift] at h
  split at h
  ·rename_i a' b' ha hb
   cases h
   simp only [Yn] at hc
   simp only [cwp]
   refine S.lift_sound hT a ha (fun e sl ob h => ?_) hc
   cases e with
   | normal => exact S.lift_sound hT b hb hQ h
   | _ => exact hQ _ _ _ h
  ·cases h
 | .skip, s2, Q, Q', sl, ob, h, hQ, hc => by simp only [S.lift] at h; cases h; exact hQ _ _ _ hc
 | .cond c a b, s2, Q, Q', sl, ob, h, hQ, hc => by
  simp only [S.lift] at h
  split at h
  ·rename_i a' b' ha hb
   cases h
   simp only [Yn] at hc
   simp only [cwp]
   generalize c.ev sl = v at hc ⊢
   unfold Us at hc; split at hc
   ·exact ⟨fun e => S.lift_sound hT a ha hQ (hc.1 e), fun e => S.lift_sound hT b hb hQ (hc.2 e)⟩
   ·exact hc.elim
  ·cases h
 | .block n a, s2, Q, Q', sl, ob, h, hQ, hc => by
  simp only [S.lift] at h
  split at h
  ·rename_i a' ha
   cases h
   simp only [Yn] at hc
   simp only [cwp]
   refine S.lift_sound hT a ha (fun e sl ob h => ?_) hc
   cases e with
   | exit m =>
    simp only [Yj] at h ⊢
    split
    ·rename_i e; rw [if_pos e] at h; exact hQ _ _ _ h
    ·rename_i e; rw [if_neg e] at h; exact hQ _ _ _ h
   | _ => exact hQ _ _ _ h
  ·cases h
 | .loop keep a, s2, Q, Q', sl, ob, h, hQ, hc => by
  simp only [S.lift] at h
  split at h
  ·rename_i a' ha
   cases h
   simp only [Yn] at hc
   simp only [cwp]
   obtain ⟨ι, S, O, I, μ, i0, h1, h2, h3, h4⟩ := hc.run
   refine ⟨⟨ι, S, O, I, μ, i0, h1, h2, h3, fun i hi => S.lift_sound hT a ha (fun e sl ob h => ?_) (h4 i hi)⟩⟩
   cases e with
   | normal => exact h
   | _ => exact hQ _ _ _ h
  ·cases h
 | .exit n, s2, Q, Q', sl, ob, h, hQ, hc => by simp only [S.lift] at h; cases h; exact hQ _ _ _ hc
 | .ret, s2, Q, Q', sl, ob, h, hQ, hc => by simp only [S.lift] at h; cases h; exact hQ _ _ _ hc
end Go.Ab
/- The equations by which folded statements are walked. Over any program; no condition. -/
namespace Go.Ab
open Go

theorem pcall_lift {P : Prg} {p : Program} (hP : P.p = p) (hm : p.follows .mixedOrders = true) {f : Nat} {s : S} {rs : List RV} {ds : List D} {ob0 : Objs} {K : V → Prop} {fs : List Nat} {s2 : S2} {T : Tab} (hc : Xt p f ds.length s rs = true) (hl : s.lift fs = some s2) (hT : TOk P T)
  (h : Yn P T s2 (J7 rs K) (Ua 0 (ds.map .d)) []) : PCall P f (ds.map .d) ob0 K :=
 Xqa hP hm hc (S.lift_sound hT s hl (fun _ _ _ h => h) h)

theorem acall_lift {P : Prg} {p : Program} (hP : P.p = p) (hm : p.follows .mixedOrders = true) {f : Nat} {s : S} {rs : List RV} {vs : List V} {ob : Objs} {K : Out → Objs → Prop} {fs : List Nat} {s2 : S2} {T : Tab} (hc : Xt p f vs.length s rs = true) (hl : s.lift fs = some s2) (hT : TOk P T)
  (h : (∀ kp, V.mens (young (fresh ob) kp) vs = false) → (∀ kp, noMenO (young (fresh ob) kp) ob = true) → Yn P T s2 (Wj (fresh ob) rs K) (Ua 0 vs) ob) : ACall P f vs ob K :=
 ACall.of_wf fun h1 h2 => by subst hP; exact Xbb hm hc (S.lift_sound hT s hl (fun _ _ _ h => h) (h h1 h2))

def PFn (P : Prg) (f : Nat) (F : Fn) : Prop := ∀ vs, F.pre vs → ∀ (ob : Objs) (K : V → Prop), K (F.val vs) → PCall P f vs ob K
theorem TOk.nil {P : Prg} : TOk P [] := fun f F h => by simp [Vl] at h
theorem TOk.cons {P : Prg} {T : Tab} {f : Nat} {F : Fn} (h : PFn P f F) (hT : TOk P T) : TOk P ((f, F) :: T) := fun g G hg => by
 simp only [Vl] at hg
 split at hg
 ·rename_i e; subst e; cases hg; exact h
 ·exact hT g G hg

def X06 (v : V) : Prop := Xlq (fun w => w = Xu1 v) v
def mxS (u v : V) : Prop := mxK (fun w => w = mxV u v) u v
def Xsl (o : BinOp) (u v : V) : Prop := Xh7 o (fun w => w = Xt3 o u v) u v
def Xak (e : Bool) (v : V) : Prop := Zz e (fun w => w = V6 e v) v
def Xwu (ob : Objs) (v : V) : Prop := Xjg ob (fun w => w = Xtp v) v
def X09 (k : IntKind) (v : V) : Prop := Xnk k (fun w => w = Xud k v) v
def idxS (u v : V) : Prop := Xn8 (fun w => w = Xx0 u v) u v
def Xdu (ob : Objs) (z : Nat) (u v : V) : Prop := Qd ob z (fun w => w = Xep z u v) u v
def Xgn (ob : Objs) (n z : Nat) (u v : V) : Prop := Ql ob n z (fun w => w = Xbv u v) u v
def Xjr (ob : Objs) (f fo : Nat) (v : V) : Prop := Vf ob f fo (fun w => w = Xg6 f fo v) v
def ldS (ob : Objs) (n : Nat) (ag : Bool) (v : V) : Prop := ldK ob n ag (fun w => w = ldV ob v) v
def Xjk (v : V) : Prop := Qi (fun w => w = v) v
def Xpn (v : V) : Prop := Jo (fun w => w = Xgg v) v
def Xab (ob : Objs) (v : V) : Prop := V9 ob (fun w => w = J3 v) v
def Qj (l h : Option V) (v : V) : Prop := Xad l h (fun w => w = Vs l h v) v
def Xpw (z : Nat) (l h : Option V) (v : V) : Prop := J9 z l h (fun w => w = Xjd l h v) v
def X00 (i : Nat) (v : V) : Prop := Xn7 i (fun w => w = Xwv i v) v
def X1c (t : Nat) (z : D) (v : V) : Prop := Xpg t z (fun w => w = Xwm t z v) v

section
variable (P : Prg) (T : Tab) (sl : Xb) (ob : Objs) (x y z : E) (a : A) (u v w : V) (k j n m : Nat) (b c : Bool) (kd kd' : IntKind) (i i' : Int) (s s' : List UInt8) (xs : List D) (vs : List V) (d : D) (o : BinOp) (p : List Nat)
-- what expressions yield
@[simp] theorem v_a : E.val T sl ob (.a a) = a.ev sl := by simp only [E.val]
@[simp] theorem v_ite : E.val T sl ob (.ite x y z) = Jl (x.val T sl ob) (y.val T sl ob) (z.val T sl ob) := by simp only [E.val]
@[simp] theorem v_call : E.val T sl ob (.call k x) = Xp1 (Vl T k) (x.val T sl ob) := by simp only [E.val]
@[simp] theorem v_nil : E.val T sl ob .nil = .tup [] := by simp only [E.val]
@[simp] theorem v_cons : E.val T sl ob (.cons x y) = Xli (x.val T sl ob) (y.val T sl ob) := by simp only [E.val]
@[simp] theorem v_not : E.val T sl ob (.u (.not (.t 0)) x) = Xu1 (x.val T sl ob) := by simp [E.val, C.val]
@[simp] theorem v_mx : E.val T sl ob (.b (.mx (.t 0) (.t 1)) x y) = mxV (x.val T sl ob) (y.val T sl ob) := by simp [E.val, C.val]
@[simp] theorem v_bin : E.val T sl ob (.b (.bin o (.t 0) (.t 1)) x y) = Xt3 o (x.val T sl ob) (y.val T sl ob) := by simp [E.val, C.val]
@[simp] theorem v_isnil : E.val T sl ob (.u (.isnil b (.t 0)) x) = V6 b (x.val T sl ob) := by simp [E.val, C.val]
@[simp] theorem v_usd : E.val T sl ob (.u (.usd (.t 0)) x) = Xtp (x.val T sl ob) := by simp [E.val, C.val]
@[simp] theorem v_cvi : E.val T sl ob (.u (.cvi kd (.t 0)) x) = Xud kd (x.val T sl ob) := by simp [E.val, C.val]
@[simp] theorem v_idx : E.val T sl ob (.b (.idx (.t 0) (.t 1)) x y) = Xx0 (x.val T sl ob) (y.val T sl ob) := by simp [E.val, C.val]
@[simp] theorem v_idxA : E.val T sl ob (.b (.idxA n (.t 0) (.t 1)) x y) = Xep n (x.val T sl ob) (y.val T sl ob) := by simp [E.val, C.val]
@[simp] theorem v_idxP : E.val T sl ob (.b (.idxP k n (.t 0) (.t 1)) x y) = Xbv (x.val T sl ob) (y.val T sl ob) := by simp [E.val, C.val]
@[simp] theorem v_fldA : E.val T sl ob (.u (.fldA k n (.t 0)) x) = Xg6 k n (x.val T sl ob) := by simp [E.val, C.val]
@[simp] theorem v_ld : E.val T sl ob (.u (.ld n b (.t 0)) x) = ldV ob (x.val T sl ob) := by simp [E.val, C.val]
@[simp] theorem v_nilc : E.val T sl ob (.u (.nilc (.t 0)) x) = x.val T sl ob := by simp [E.val, C.val]
@[simp] theorem v_lenS : E.val T sl ob (.u (.lenS (.t 0)) x) = Xgg (x.val T sl ob) := by simp [E.val, C.val]
@[simp] theorem v_lenL : E.val T sl ob (.u (.lenL (.t 0)) x) = J3 (x.val T sl ob) := by simp [E.val, C.val]
@[simp] theorem v_slcS1 : E.val T sl ob (.b (.slcS (.t 0) (some (.t 1)) none) x y) = Vs (some (y.val T sl ob)) none (x.val T sl ob) := by simp [E.val, C.val]
@[simp] theorem v_slcS2 : E.val T sl ob (.b (.slcS (.t 0) none (some (.t 1))) x y) = Vs none (some (y.val T sl ob)) (x.val T sl ob) := by simp [E.val, C.val]
@[simp] theorem v_slcS3 : E.val T sl ob (.t (.slcS (.t 0) (some (.t 1)) (some (.t 2))) x y z) = Vs (some (y.val T sl ob)) (some (z.val T sl ob)) (x.val T sl ob) := by simp [E.val, C.val]
@[simp] theorem v_slcL2 : E.val T sl ob (.b (.slcL n (.t 0) none (some (.t 1))) x y) = Xjd none (some (y.val T sl ob)) (x.val T sl ob) := by simp [E.val, C.val]
@[simp] theorem v_ext : E.val T sl ob (.u (.ext (.t 0) n) x) = Xwv n (x.val T sl ob) := by simp [E.val, C.val]
@[simp] theorem v_mki : E.val T sl ob (.u (.mki n (.t 0)) x) = Xoc n (x.val T sl ob) := by simp [E.val, C.val]
@[simp] theorem v_tas : E.val T sl ob (.u (.tas n d (.t 0)) x) = Xwm n d (x.val T sl ob) := by simp [E.val, C.val]
-- when expressions are safe
@[simp] theorem o_a : E.ok T sl ob (.a a) = True := by simp only [E.ok]
@[simp] theorem o_ite : E.ok T sl ob (.ite x y z) = (x.ok T sl ob ∧ J1 (x.val T sl ob) ∧ (isB true (x.val T sl ob) = true → y.ok T sl ob) ∧ (isB false (x.val T sl ob) = true → z.ok T sl ob)) := by simp only [E.ok]
@[simp] theorem o_call : E.ok T sl ob (.call k x) = (x.ok T sl ob ∧ Xp0 (Vl T k) (x.val T sl ob)) := by simp only [E.ok]
@[simp] theorem o_nil : E.ok T sl ob .nil = True := by simp only [E.ok]
@[simp] theorem o_cons : E.ok T sl ob (.cons x y) = (x.ok T sl ob ∧ y.ok T sl ob) := by simp only [E.ok]
@[simp] theorem o_not : E.ok T sl ob (.u (.not (.t 0)) x) = (x.ok T sl ob ∧ X06 (x.val T sl ob)) := by simp [E.ok, C.ok, C.val, X06]
@[simp] theorem o_mx : E.ok T sl ob (.b (.mx (.t 0) (.t 1)) x y) = (x.ok T sl ob ∧ y.ok T sl ob ∧ mxS (x.val T sl ob) (y.val T sl ob)) := by simp [E.ok, C.ok, C.val, mxS]
@[simp] theorem o_bin : E.ok T sl ob (.b (.bin o (.t 0) (.t 1)) x y) = (x.ok T sl ob ∧ y.ok T sl ob ∧ Xsl o (x.val T sl ob) (y.val T sl ob)) := by simp [E.ok, C.ok, C.val, Xsl]
@[simp] theorem o_usd : E.ok T sl ob (.u (.usd (.t 0)) x) = (x.ok T sl ob ∧ Xwu ob (x.val T sl ob)) := by simp [E.ok, C.ok, C.val, Xwu]
@[simp] theorem o_isnil : E.ok T sl ob (.u (.isnil b (.t 0)) x) = (x.ok T sl ob ∧ Xak b (x.val T sl ob)) := by simp [E.ok, C.ok, C.val, Xak]
@[simp] theorem o_cvi : E.ok T sl ob (.u (.cvi kd (.t 0)) x) = (x.ok T sl ob ∧ X09 kd (x.val T sl ob)) := by simp [E.ok, C.ok, C.val, X09]
@[simp] theorem o_idx : E.ok T sl ob (.b (.idx (.t 0) (.t 1)) x y) = (x.ok T sl ob ∧ y.ok T sl ob ∧ idxS (x.val T sl ob) (y.val T sl ob)) := by simp [E.ok, C.ok, C.val, idxS]
@[simp] theorem o_idxA : E.ok T sl ob (.b (.idxA n (.t 0) (.t 1)) x y) = (x.ok T sl ob ∧ y.ok T sl ob ∧ Xdu ob n (x.val T sl ob) (y.val T sl ob)) := by simp [E.ok, C.ok, C.val, Xdu]
@[simp] theorem o_idxP : E.ok T sl ob (.b (.idxP k n (.t 0) (.t 1)) x y) = (x.ok T sl ob ∧ y.ok T sl ob ∧ Xgn ob k n (x.val T sl ob) (y.val T sl ob)) := by simp [E.ok, C.ok, C.val, Xgn]
@[simp] theorem o_fldA : E.ok T sl ob (.u (.fldA k n (.t 0)) x) = (x.ok T sl ob ∧ Xjr ob k n (x.val T sl ob)) := by simp [E.ok, C.ok, C.val, Xjr]
@[simp] theorem o_ld : E.ok T sl ob (.u (.ld n b (.t 0)) x) = (x.ok T sl ob ∧ ldS ob n b (x.val T sl ob)) := by simp [E.ok, C.ok, C.val, ldS]
@[simp] theorem o_nilc : E.ok T sl ob (.u (.nilc (.t 0)) x) = (x.ok T sl ob ∧ Xjk (x.val T sl ob)) := by simp [E.ok, C.ok, C.val, Xjk]
@[simp] theorem o_lenS : E.ok T sl ob (.u (.lenS (.t 0)) x) = (x.ok T sl ob ∧ Xpn (x.val T sl ob)) := by simp [E.ok, C.ok, C.val, Xpn]
@[simp] theorem o_lenL : E.ok T sl ob (.u (.lenL (.t 0)) x) = (x.ok T sl ob ∧ Xab ob (x.val T sl ob)) := by simp [E.ok, C.ok, C.val, Xab]
@[simp] theorem o_slcS1 : E.ok T sl ob (.b (.slcS (.t 0) (some (.t 1)) none) x y) = (x.ok T sl ob ∧ y.ok T sl ob ∧ Qj (some (y.val T sl ob)) none (x.val T sl ob)) := by simp [E.ok, C.ok, C.val, Qj]
@[simp] theorem o_slcS2 : E.ok T sl ob (.b (.slcS (.t 0) none (some (.t 1))) x y) = (x.ok T sl ob ∧ y.ok T sl ob ∧ Qj none (some (y.val T sl ob)) (x.val T sl ob)) := by simp [E.ok, C.ok, C.val, Qj]
@[simp] theorem o_slcS3 : E.ok T sl ob (.t (.slcS (.t 0) (some (.t 1)) (some (.t 2))) x y z) = (x.ok T sl ob ∧ y.ok T sl ob ∧ z.ok T sl ob ∧ Qj (some (y.val T sl ob)) (some (z.val T sl ob)) (x.val T sl ob)) := by simp [E.ok, C.ok, C.val, Qj]
@[simp] theorem o_slcL2 : E.ok T sl ob (.b (.slcL n (.t 0) none (some (.t 1))) x y) = (x.ok T sl ob ∧ y.ok T sl ob ∧ Xpw n none (some (y.val T sl ob)) (x.val T sl ob)) := by simp [E.ok, C.ok, C.val, Xpw]
@[simp] theorem o_ext : E.ok T sl ob (.u (.ext (.t 0) n) x) = (x.ok T sl ob ∧ X00 n (x.val T sl ob)) := by simp [E.ok, C.ok, C.val, X00]
@[simp] theorem o_mki : E.ok T sl ob (.u (.mki n (.t 0)) x) = x.ok T sl ob := by simp [E.ok, C.ok, C.val]
@[simp] theorem o_tas : E.ok T sl ob (.u (.tas n d (.t 0)) x) = (x.ok T sl ob ∧ X1c n d (x.val T sl ob)) := by simp [E.ok, C.ok, C.val, X1c]
-- values
@[simp] theorem pickV_b (b1 b2 : Bool) : Jl (.d (.bool b)) (.d (.bool b1)) (.d (.bool b2)) = .d (.bool (if b then b1 else b2)) := by simp only [Jl]
attribute [simp] Xlp Xm1
@[simp] theorem notV_b : Xu1 (.d (.bool b)) = .d (.bool (!b)) := by simp only [Xu1]
@[simp] theorem notS_b : X06 (.d (.bool b)) = True := by simp [X06]
@[simp] theorem mxV_i : mxV (.d (.int kd i)) (.d (.int kd' i')) = .d (.int kd (if i' > i then i' else i)) := by simp only [mxV]
@[simp] theorem mxS_i : mxS (.d (.int kd i)) (.d (.int kd' i')) = True := by simp [mxS, mxK, mxV]
@[simp] theorem binV_i : Xt3 o (.d (.int kd i)) (.d (.int kd' i')) = U5 o kd i i' := by simp only [Xt3]
@[simp] theorem binV_s : Xt3 o (.d (.str s)) (.d (.str s')) = Xrc o s s' := by simp only [Xt3]
@[simp] theorem intV_add : U5 .add kd i i' = .d (.int kd (kd.wrap (i + i'))) := by simp only [U5]
@[simp] theorem intV_sub : U5 .sub kd i i' = .d (.int kd (kd.wrap (i - i'))) := by simp only [U5]
@[simp] theorem intV_mul : U5 .mul kd i i' = .d (.int kd (kd.wrap (i * i'))) := by simp only [U5]
@[simp] theorem intV_eql : U5 .eql kd i i' = .d (.bool (i == i')) := by simp only [U5]
@[simp] theorem intV_neq : U5 .neq kd i i' = .d (.bool (i != i')) := by simp only [U5]
@[simp] theorem intV_lss : U5 .lss kd i i' = .d (.bool (decide (i < i'))) := by simp only [U5]
@[simp] theorem intV_leq : U5 .leq kd i i' = .d (.bool (decide (i ≤ i'))) := by simp only [U5]
@[simp] theorem intV_gtr : U5 .gtr kd i i' = .d (.bool (decide (i' < i))) := by simp only [U5]
@[simp] theorem intV_geq : U5 .geq kd i i' = .d (.bool (decide (i' ≤ i))) := by simp only [U5]
@[simp] theorem strV_eql : Xrc .eql s s' = .d (.bool (s == s')) := by simp only [Xrc]
@[simp] theorem strV_neq : Xrc .neq s s' = .d (.bool (s != s')) := by simp only [Xrc]
def X2m (o : BinOp) (i : Int) : Prop := match o with
 | .quo | .rem => i ≠ 0
 | .shl | .shr => 0 ≤ i
 | _ => True
@[simp] theorem binS_i : Xsl o (.d (.int kd i)) (.d (.int kd i')) = X2m o i' := by cases o <;> simp [Xsl, X2m, Xhb, U5]
attribute [simp] X2m
@[simp] theorem binS_eql : Xsl .eql (.d (.str s)) (.d (.str s')) = True := by simp [Xsl]
@[simp] theorem binS_neq : Xsl .neq (.d (.str s)) (.d (.str s')) = True := by simp [Xsl]
@[simp] theorem isnilV_n : V6 b (.d .nili) = .d (.bool b) := by simp only [V6]
@[simp] theorem isnilS_n : Xak b (.d .nili) = True := by simp [Xak]
@[simp] theorem isnilV_di : V6 b (.d (.iface k d)) = .d (.bool (!b)) := by simp only [V6]
@[simp] theorem isnilS_di : Xak b (.d (.iface k d)) = True := by simp [Xak]
@[simp] theorem usdV_s : Xtp (.sl k n) = .sd k n := by simp only [Xtp]
@[simp] theorem usdV_n : Xtp (.d .nils) = .d .nilp := by simp only [Xtp]
@[simp] theorem usdS_s : Xwu ob (.sl k n) = ∃ E sz xs, lookO ob k = some (.arr E sz xs) ∧ sz ≠ 0 ∧ n = xs.length ∧ xs ≠ [] := by simp [Xwu]
@[simp] theorem usdS_n : Xwu ob (.d .nils) = True := by simp [Xwu]
@[simp] theorem cviV_i : Xud kd (.d (.int kd' i)) = .d (.int kd (kd.wrap i)) := by simp only [Xud]
@[simp] theorem cviS_i : X09 kd (.d (.int kd' i)) = True := by simp [X09]
@[simp] theorem idxV_s : Xx0 (.d (.str s)) (.d (.int kd i)) = .d (.int .u8 (s.getD i.toNat 0).toNat) := by simp only [Xx0]
@[simp] theorem idxS_s : idxS (.d (.str s)) (.d (.int kd i)) = (0 ≤ i ∧ i < s.length) := by simp [idxS]
@[simp] theorem idxAV_l : Xep m (.d (.list n xs)) (.d (.int kd i)) = .d (.ref (xs.getD i.toNat default)) := by simp only [Xep]
@[simp] theorem idxAS_l : Xdu ob n (.d (.list n xs)) (.d (.int kd i)) = (0 ≤ i ∧ i < xs.length) := by simp [Xdu]
@[simp] theorem idxPV_p : Xbv (.ptr j p) (.d (.int kd i)) = .ptr j (p ++ [i.toNat]) := by simp only [Xbv]
@[simp] theorem idxPV_c : Xbv (.d (.ref (.agg xs))) (.d (.int kd i)) = .d (.ref (xs.getD i.toNat default)) := by simp only [Xbv]
@[simp] theorem idxPS_p : Xgn ob k n (.ptr j p) (.d (.int kd i)) = ((0 ≤ i ∧ i < k) ∧ ∃ ks, Yc (atO ob j p) = some ks ∧ ks.length = k ∧ ∀ k ∈ ks, k.size = n) := by simp [Xgn]
@[simp] theorem Xu9 : Xgn ob k n (.d (.ref (.agg xs))) (.d (.int kd i)) = ((0 ≤ i ∧ i < k) ∧ xs.length = k ∧ ∀ x ∈ xs, x.sz = n) := by simp [Xgn]
@[simp] theorem fldAV_p : Xg6 k n (.ptr j p) = .ptr j (p ++ [k]) := by simp only [Xg6]
@[simp] theorem fldAV_c : Xg6 k n (.d (.ref (.agg xs))) = .d (.ref (xs.getD k default)) := by simp only [Xg6]
def Xh4 (f fo : Nat) : Option (List V) → Prop
 | some ks => f < ks.length ∧ Sh.sizes ((ks.take f).map V.shape) = fo
 | none => False
@[simp] theorem fldASo_s : Xh4 k n (some vs) = (k < vs.length ∧ Sh.sizes ((vs.take k).map V.shape) = n) := by simp only [Xh4]
@[simp] theorem fldAS_p : Xjr ob k n (.ptr j p) = Xh4 k n (Yc (atO ob j p)) := by
 simp only [Xjr, Vf, Xh4]; cases Yc (atO ob j p) <;> simp [Ws]
@[simp] theorem fldAS_c : Xjr ob k n (.d (.ref (.agg xs))) = (k < xs.length ∧ D.szs (xs.take k) = n) := by simp [Xjr]
@[simp] theorem ldVo_s : Xrb (some v) = v := by simp only [Xrb]
@[simp] theorem ldV_p : ldV ob (.ptr j p) = Xrb (atO ob j p) := by simp only [ldV]
@[simp] theorem ldV_c : ldV ob (.d (.ref d)) = .d d := by simp only [ldV]
def Xwt (n : Nat) (b : Bool) : Option V → Prop
 | some v => v.size = n ∧ v.isAgg = b
 | none => False
@[simp] theorem ldSo_s : Xwt n b (some v) = (v.size = n ∧ v.isAgg = b) := by simp only [Xwt]
@[simp] theorem ldS_p : ldS ob n b (.ptr j p) = Xwt n b (atO ob j p) := by
 simp only [ldS, ldK, ldV]; cases atO ob j p <;> simp [Xdq, Xwt, Xrb]
@[simp] theorem ldS_c : ldS ob n b (.d (.ref d)) = (d.sz = n ∧ (V.d d).isAgg = b) := by simp [ldS]
@[simp] theorem nilcS_p : Xjk (.ptr j p) = True := by simp [Xjk]
@[simp] theorem nilcS_c : Xjk (.d (.ref d)) = True := by simp [Xjk]
@[simp] theorem lenSV_s : Xgg (.d (.str s)) = .d (.int .i64 s.length) := by simp only [Xgg]
@[simp] theorem lenSS_s : Xpn (.d (.str s)) = True := by simp [Xpn]
@[simp] theorem lenLV_l : J3 (.d (.list n xs)) = .d (.int .i64 xs.length) := by simp only [J3]
@[simp] theorem lenLV_n : J3 (.d .nils) = .d (.int .i64 0) := by simp only [J3]
@[simp] theorem lenLV_o : J3 (.sl j n) = .d (.int .i64 n) := by simp only [J3]
@[simp] theorem lenLS_l : Xab ob (.d (.list n xs)) = True := by simp [Xab]
@[simp] theorem lenLS_n : Xab ob (.d .nils) = True := by simp [Xab]
@[simp] theorem lenLS_o : Xab ob (.sl j n) = ((∃ E z xs, lookO ob j = some (.arr E z xs) ∧ n = xs.length) ∨ ∃ E z xs, lookO ob j = some (.vec E z xs) ∧ n = xs.length) := by simp [Xab]
@[simp] theorem slcSV_sn : Vs (some (.d (.int kd i))) none (.d (.str s)) = .d (.str (s.drop i.toNat)) := by simp [Vs, Xn3]
@[simp] theorem slcSV_ns : Vs none (some (.d (.int kd i))) (.d (.str s)) = .d (.str (s.take i.toNat)) := by simp [Vs, Xn3]
@[simp] theorem slcSV_ss : Vs (some (.d (.int kd i))) (some (.d (.int kd' i'))) (.d (.str s)) = .d (.str ((s.take i'.toNat).drop i.toNat)) := by simp only [Vs, Xn3]
@[simp] theorem slcSS_sn : Qj (some (.d (.int kd i))) none (.d (.str s)) = (0 ≤ i ∧ i ≤ s.length) := by simp [Qj, Vs, Xn3]
@[simp] theorem slcSS_ns : Qj none (some (.d (.int kd i))) (.d (.str s)) = (0 ≤ i ∧ i ≤ s.length) := by simp [Qj, Vs, Xn3]
@[simp] theorem slcSS_ss : Qj (some (.d (.int kd i))) (some (.d (.int kd' i'))) (.d (.str s)) = ((0 ≤ i' ∧ i' ≤ s.length) ∧ 0 ≤ i ∧ i ≤ i') := by simp [Qj, Vs, Xn3]
@[simp] theorem slcLV_ns : Xjd none (some (.d (.int kd i))) (.d (.list n xs)) = .d (.list n (xs.take i.toNat)) := by simp [Xjd, Xn3]
@[simp] theorem slcLS_ns : Xpw n none (some (.d (.int kd i))) (.d (.list n xs)) = (0 ≤ i ∧ i ≤ xs.length) := by simp [Xpw, Xjd, Xn3]
@[simp] theorem extV_t : Xwv n (.tup vs) = vs.getD n .any := by simp only [Xwv]
@[simp] theorem extS_t : X00 n (.tup vs) = (n < vs.length) := by simp [X00, Xwv]
@[simp] theorem tasV_dy (d' : D) : Xwm k d (.d (.iface k d')) = .tup [.d d', .d (.bool true)] := by simp [Xwm]
@[simp] theorem tasS_d (d' : D) : X1c k d (.d (.iface j d')) = True := by by_cases h : j = k <;> simp [X1c, Xpg, Xwm, h]
@[simp] theorem consV_t : Xli v (.tup vs) = .tup (v :: vs) := by simp only [Xli]
@[simp] theorem callV_s (F : Fn) : Xp1 (some F) (.tup vs) = F.val vs := by simp only [Xp1]
@[simp] theorem callP_s (F : Fn) : Xp0 (some F) (.tup vs) = F.pre vs := by simp only [Xp0]
@[simp] theorem lookT_eq (F : Fn) : Vl ((k, F) :: T) k = some F := by simp [Vl]
@[simp] theorem lookT_ne (F : Fn) (h : (j == k) = false) : Vl ((j, F) :: T) k = Vl T k := by simp at h; simp [Vl, h]
@[simp] theorem isB_b : isB c (.d (.bool b)) = (b == c) := by simp only [isB]
@[simp] theorem boolV_b : J1 (.d (.bool b)) = True := by simp only [J1]
@[simp] theorem whenV_t : Xcm true v = v := by simp [Xcm]
@[simp] theorem whenV_f : Xcm false v = .undef := by simp [Xcm]
@[simp] theorem holdsB_nil : Ym T sl ob [] = true := by simp [Ym]
@[simp] theorem holdsB_cons (l : List (E × Bool)) : Ym T sl ob ((x, b) :: l) = (isB b (x.val T sl ob) && Ym T sl ob l) := by simp [Ym]
-- folded statements
@[simp] theorem zt (KS : Xb → Objs → Prop) (PS : V → Xb → Objs → Prop) : Z3 P T KS PS [] sl ob = KS sl ob := by simp only [Z3]
@[simp] theorem zq (KS : Xb → Objs → Prop) (PS : V → Xb → Objs → Prop) (q : List (E × Bool)) (l : List It2) : Z3 P T KS PS (.chk q x :: l) sl ob = ((Ym T sl ob q = true → x.ok T sl ob) ∧ Z3 P T KS PS l sl ob) := by simp only [Z3]
@[simp] theorem zs (KS : Xb → Objs → Prop) (PS : V → Xb → Objs → Prop) (q : List (E × Bool)) (l : List It2) : Z3 P T KS PS (.lt k q x :: l) sl ob = ((Ym T sl ob q = true → x.ok T sl ob) ∧ Z3 P T KS PS l ((k, Xcm (Ym T sl ob q) (x.val T sl ob)) :: sl) ob) := by simp only [Z3]
@[simp] theorem zu (KS : Xb → Objs → Prop) (PS : V → Xb → Objs → Prop) (dd : Option Nat) (e : I) (l : List It2) : Z3 P T KS PS (.op dd e :: l) sl ob = e.wp P sl ob (fun v ob' => Z3 P T KS PS l (put sl dd v) ob') (fun v ob' => PS v sl ob') := by simp only [Z3]
@[simp] theorem zr (KS : Xb → Objs → Prop) (PS : V → Xb → Objs → Prop) (q : List (E × Bool)) (dd : Option Nat) (e : I) (l : List It2) : Z3 P T KS PS (.gop q dd e :: l) sl ob = ((Ym T sl ob q = true → e.wp P sl ob (fun v ob' => Z3 P T KS PS l (put sl dd v) ob') (fun v ob' => PS v sl ob')) ∧ (Ym T sl ob q = false → Z3 P T KS PS l (put sl dd .undef) ob)) := by simp only [Z3]
@[simp] theorem keepE_nil : Wk T sl ob [] = [] := by simp only [Wk]
@[simp] theorem keepE_cons (l : List (Nat × E)) : Wk T sl ob ((k, x) :: l) = (k, x.val T sl ob) :: Wk T sl ob l := by simp only [Wk]
@[simp] theorem keepOk_nil : Zf T sl ob [] = True := by simp only [Zf]
@[simp] theorem keepOk_cons (l : List (Nat × E)) : Zf T sl ob ((k, x) :: l) = (x.ok T sl ob ∧ Zf T sl ob l) := by simp only [Zf]
variable (Q : Zt) (s1 s2 : S2)
@[simp] theorem ql (l : List It2) (kp : List (Nat × E)) (pk : List Nat) : Yn P T (.rg l kp pk) Q sl ob = Z3 P T (fun sl ob => Zf T sl ob kp ∧ Q .normal (Wk T sl ob kp) ob) (fun v sl ob => Q (.panic v) (Xc sl pk) ob) l sl ob := by simp only [Yn]
@[simp] theorem qn : Yn P T (.seq s1 s2) Q sl ob = Yn P T s1 (Zn (Yn P T s2 Q) Q) sl ob := by simp only [Yn]
@[simp] theorem qp : Yn P T .skip Q sl ob = Q .normal sl ob := by simp only [Yn]
@[simp] theorem qi : Yn P T (.cond a s1 s2) Q sl ob = Us (Yn P T s1 Q sl ob) (Yn P T s2 Q sl ob) (a.ev sl) := by simp only [Yn]
@[simp] theorem qh : Yn P T (.block n s1) Q sl ob = Yn P T s1 (Yj n Q) sl ob := by simp only [Yn]
@[simp] theorem cwp2_loop (kp : List Nat) : Yn P T (.loop kp s1) Q sl ob = ALoop kp (Yn P T s1) Q sl ob := by simp only [Yn]
@[simp] theorem qj : Yn P T (.exit n) Q sl ob = Q (.exit n) sl ob := by simp only [Yn]
@[simp] theorem qk : Yn P T .ret Q sl ob = Q .ret sl ob := by simp only [Yn]
end
@[congr] theorem rwp2_congr {P : Prg} {T : Tab} {KS : Xb → Objs → Prop} {PS : V → Xb → Objs → Prop} {l : List It2} {sl sl' : Xb} {ob ob' : Objs} (h : sl = sl') (h' : ob = ob') : Z3 P T KS PS l sl ob = Z3 P T KS PS l sl' ob' := by rw [h, h']
@[congr] theorem cwp2_congr {P : Prg} {T : Tab} {s : S2} {Q : Zt} {sl sl' : Xb} {ob ob' : Objs} (h : sl = sl') (h' : ob = ob') : Yn P T s Q sl ob = Yn P T s Q sl' ob' := by rw [h, h']
@[congr] theorem E_val_congr {T : Tab} {sl : Xb} {ob : Objs} {e : E} : E.val T sl ob e = E.val T sl ob e := rfl
@[congr] theorem E_ok_congr {T : Tab} {sl : Xb} {ob : Objs} {e : E} : E.ok T sl ob e = E.ok T sl ob e := rfl
end Go.Ab
/- Objects lent to a call that only reads: it sees them as data. Over any program; no condition. -/
namespace Go.Ab
open Go

def Qe {α β : Type} (f : α → Option β) : List α → Option (List β)
 | [] => some []
 | x :: r => match f x with
  | some y => match Qe f r with
   | some l => some (y :: l)
   | none => none
  | none => none
def Xk0 (k : Nat) : Option Ob → Option D
 | some (.arr _ sz xs) => if sz ≠ 0 ∧ k = xs.length then some (.list sz xs) else none
 | _ => none
def refO (f : V → Option D) : Option V → Option D
 | some t => (f t).map .ref
 | none => none
def V.toD (ob : Objs) : Nat → V → Option D
 | 0, _ => none
 | _ + 1, .d x => some x
 | n + 1, .ptr id p => refO (V.toD ob n) (atO ob id p)
 | _ + 1, .sl id k => Xk0 k (lookO ob id)
 | n + 1, .fn f fi ca => match Qe (V.toD ob n) fi, Qe (V.toD ob n) ca with
  | some l, some m => some (.fn f l m)
  | _, _ => none
 | n + 1, .agg xs => (Qe (V.toD ob n) xs).map .agg
 | n + 1, .iface t x => (V.toD ob n x).map (.iface t)
 | _ + 1, _ => none
def V.toDs (ob : Objs) (n : Nat) (vs : List V) : Option (List D) := Qe (V.toD ob n) vs

mutual
def D.flat : D → Bool
 | .agg xs => D.flats xs
 | .list _ _ | .ref _ | .fn _ _ _ | .iface _ _ => false
 | _ => true
def D.flats : List D → Bool
 | [] => true
 | x :: r => x.flat && D.flats r
end
def V.flat : V → Bool
 | .d x => x.flat
 | _ => false
def V.flatR : V → Bool
 | .d x => x.flat
 | .tup xs => xs.all V.flat
 | _ => false

section
variable {w : World} {ρ : Env} {ob : Objs}
def Xn9 : Nat → Prop := fun _ => False
theorem Xuy : Xc6 w (own ρ) w Xn9 := fun _ _ _ => ⟨rfl, fun h => h⟩

mutual
theorem D.flat_rep {ow ow' : Nat → Prop} : ∀ (x : D) (cs : List Value), x.flat = true → x.rep w ow cs → x.rep w ow' cs
 | .int _ _, _, _, h | .bool _, _, _, h | .str _, _, _, h | .nils, _, _, h | .nili, _, _, h | .nilp, _, _, h | .nilf, _, _, h | .nilm, _, _, h => by simpa only [D.rep] using h
 | .agg xs, cs, hf, h => by simp only [D.rep] at h ⊢; simp only [D.flat] at hf; exact D.flats_rep xs cs hf h
 | .list _ _, _, hf, _ | .ref _, _, hf, _ | .fn _ _ _, _, hf, _ | .iface _ _, _, hf, _ => by simp [D.flat] at hf
theorem D.flats_rep {ow ow' : Nat → Prop} : ∀ (xs : List D) (cs : List Value), D.flats xs = true → D.repL w ow xs cs → D.repL w ow' xs cs
 | [], _, _, h => by simpa only [D.repL] using h
 | x :: r, cs, hf, h => by
  simp only [D.repL] at h ⊢
  simp only [D.flats, Bool.and_eq_true] at hf
  obtain ⟨c1, c2, e, h1, h2⟩ := h
  exact ⟨c1, c2, e, D.flat_rep x c1 hf.1 h1, D.flats_rep r c2 hf.2 h2⟩
end
theorem V.flat_rep {ρ' : Env} {v : V} {u : Value} (hf : v.flat = true) (h : v.rep w ρ u) : v.rep w ρ' u := by
 cases v with
 | d x =>
  simp only [V.flat] at hf
  rw [Uv] at h ⊢
  rcases h with ⟨a, ds, e, r⟩ | ⟨a, r⟩
  ·exact .inl ⟨a, ds, e, D.flat_rep x ds hf r⟩
  ·exact .inr ⟨a, D.flat_rep x _ hf r⟩
 | _ => simp [V.flat] at hf
theorem V.flats_rep {ρ' : Env} : ∀ {vs : List V} {us : List Value}, vs.all V.flat = true → V.reps w ρ vs us → V.reps w ρ' vs us
 | [], _, _, h => by simpa only [V.reps] using h
 | v :: r, us, hf, h => by
  simp only [List.all_cons, Bool.and_eq_true] at hf
  simp only [V.reps] at h ⊢
  obtain ⟨u, us', e, h1, h2⟩ := h
  exact ⟨u, us', e, V.flat_rep (ρ := ρ) (u := u) hf.1 h1, V.flats_rep hf.2 h2⟩
theorem V.flatR_rep {ρ' : Env} {v : V} {u : Value} (hf : v.flatR = true) (h : v.rep w ρ u) : v.rep w ρ' u := by
 cases v with
 | d x => exact V.flat_rep (v := .d x) hf h
 | tup xs =>
  rw [rep_tup] at h ⊢
  obtain ⟨vs, e, h⟩ := h
  exact ⟨vs, e, V.flats_rep hf h⟩
 | _ => simp [V.flatR] at hf

theorem Xdv (hO : OM w ρ ob) : ∀ (n : Nat) (v : V) (cs : List Value) (y : D), v.repC w ρ cs → V.toD ob n v = some y → y.rep w Xn9 cs ∧ y.isAgg = v.isAgg := by
 intro n
 induction n with
 | zero => intro v cs y _ h; simp [V.toD] at h
 | succ n ih =>
  have ihT : ∀ (v : V) (u : Value) (y : D), v.rep w ρ u → V.toD ob n v = some y → (y.isAgg = true ∧ ∃ ds, u = .agg ds.toArray ∧ y.rep w Xn9 ds) ∨ (y.isAgg = false ∧ y.rep w Xn9 [u]) := by
   intro v u y h e
   rcases h with h | ⟨a, ds, q, r⟩ | ⟨a, r⟩
   ·subst h; cases n <;> simp [V.toD] at e
   ·obtain ⟨h1, h2⟩ := ih v ds y r e; exact .inl ⟨h2.trans a, ds, q, h1⟩
   ·obtain ⟨h1, h2⟩ := ih v _ y r e; exact .inr ⟨h2.trans a, h1⟩
  have seqT : ∀ (vs : List V) (us : List Value) (l : List D), V.reps w ρ vs us → Qe (V.toD ob n) vs = some l → D.repT w Xn9 l us := by
   intro vs
   induction vs with
   | nil => intro us l h e; simp only [Qe] at e; cases e; simpa only [V.reps, D.repT] using h
   | cons v r ihr =>
    intro us l h e
    simp only [V.reps] at h
    obtain ⟨u, us', rfl, h1, h2⟩ := h
    simp only [Qe] at e
    split at e
    ·rename_i y hy
     split at e
     ·rename_i l' hl; cases e
      simp only [D.repT]
      exact ⟨u, us', rfl, ihT v u y h1 hy, ihr us' l' h2 hl⟩
     ·cases e
    ·cases e
  have Xzv : ∀ (vs : List V) (cs : List Value) (l : List D), V.repCs w ρ vs cs → Qe (V.toD ob n) vs = some l → D.repL w Xn9 l cs := by
   intro vs
   induction vs with
   | nil => intro us l h e; simp only [Qe] at e; cases e; simpa only [V.repCs, D.repL] using h
   | cons v r ihr =>
    intro cs l h e
    simp only [V.repCs] at h
    obtain ⟨c1, c2, rfl, h1, h2⟩ := h
    simp only [Qe] at e
    split at e
    ·rename_i y hy
     split at e
     ·rename_i l' hl; cases e
      simp only [D.repL]
      exact ⟨c1, c2, rfl, (ih v c1 y h1 hy).1, ihr c2 l' h2 hl⟩
     ·cases e
    ·cases e
  intro v cs y h e
  cases v with
  | d x =>
   simp only [V.toD] at e; cases e
   simp only [V.repC] at h
   exact ⟨D.rep_mono Xuy _ _ h, by cases y <;> rfl⟩
  | ptr id p =>
   simp only [V.toD] at e
   cases hat : atO ob id p with
   | none => rw [hat] at e; simp only [refO] at e; cases e
   | some t =>
    simp only [hat, refO, Option.map_eq_some_iff] at e
    obtain ⟨z, hz, rfl⟩ := e
    obtain ⟨t0, b, cs0, E, g1, g2, g3, g4, g5⟩ := Vh hO hat
    have hr : (V.ptr id p).rep w ρ (cs.headD undef) := by
     have hl := V.repC_len _ _ h
     simp [V.shape, Sh.size] at hl
     obtain ⟨c, rfl⟩ := List.length_eq_one_iff.1 hl
     exact .inr (.inr ⟨rfl, by simpa using h⟩)
    obtain ⟨b', sh, hρ, hu⟩ := rep_ptr_box hO g1 hr
    rw [g3] at hρ; cases hρ
    have hl := V.repC_len _ _ h
    simp [V.shape, Sh.size] at hl
    obtain ⟨c, rfl⟩ := List.length_eq_one_iff.1 hl
    simp only [List.headD_cons] at hu
    subst hu
    obtain ⟨c1, c2, c3, e1, e2, h5⟩ := V.repC_at p t0 t cs0 g5 g2
    refine ⟨?_, rfl⟩
    simp only [D.rep]
    refine ⟨_, c2, rfl, rfl, ⟨fun _ => ⟨rfl, fun h => h, Xh g4⟩, fun i hi => ?_⟩, (ih t c2 z h5 hz).1⟩
    rw [← e2]
    simp [World.cell?, g4, e1, List.getElem?_append, hi]
  | sl id k =>
   simp only [V.toD] at e
   unfold Xk0 at e
   split at e
   ·rename_i E sz xs hl
    split at e
    ·rename_i hc; cases e
     obtain ⟨hsz, rfl⟩ := hc
     simp only [V.repC] at h
     obtain ⟨o, u, h1, rfl, h2⟩ := h
     have := Vr hO hl hsz (u := u) (by rw [X4]; exact ⟨o, h1, h2⟩)
     rw [Y7 (by simp [V.isAgg]) (by simp)] at this
     simp only [V.repC] at this
     exact ⟨D.rep_mono (ow' := Xn9) (fun _ _ _ => ⟨rfl, fun h => h⟩) _ _ this, rfl⟩
    ·cases e
   ·cases e
  | fn f fi ca =>
   simp only [V.toD] at e
   split at e
   ·rename_i l m hl hm
    cases e
    simp only [V.repC] at h
    obtain ⟨fs, gs, e1, h1, h2⟩ := h
    exact ⟨by simp only [D.rep]; exact ⟨fs, gs, e1, seqT fi fs l h1 hl, seqT ca gs m h2 hm⟩, rfl⟩
   ·cases e
  | agg xs =>
   simp only [V.toD, Option.map_eq_some_iff] at e
   obtain ⟨l, hl, rfl⟩ := e
   simp only [V.repC] at h
   exact ⟨by simp only [D.rep]; exact Xzv xs cs l h hl, rfl⟩
  | iface t x =>
   simp only [V.toD, Option.map_eq_some_iff] at e
   obtain ⟨z, hz, rfl⟩ := e
   simp only [V.repC] at h
   obtain ⟨u, e1, h1⟩ := h
   exact ⟨by simp only [D.rep]; exact ⟨u, e1, ihT x u z h1 hz⟩, rfl⟩
  | _ => simp [V.toD] at e

theorem Xau (hO : OM w ρ ob) {n : Nat} : ∀ (vs : List V) (us : List Value) (l : List D), V.reps w ρ vs us → V.toDs ob n vs = some l → D.repT w Xn9 l us
 | [], us, l, h, e => by simp only [V.toDs, Qe] at e; cases e; simpa only [V.reps, D.repT] using h
 | v :: r, us, l, h, e => by
  simp only [V.reps] at h
  obtain ⟨u, us', rfl, h1, h2⟩ := h
  simp only [V.toDs, Qe] at e
  split at e
  ·rename_i y hy
   split at e
   ·rename_i l' hl; cases e
    simp only [D.repT]
    refine ⟨u, us', rfl, ?_, Xau hO r us' l' h2 hl⟩
    rcases h1 with h | ⟨a, ds, q, r⟩ | ⟨a, r⟩
    ·subst h; cases n <;> simp [V.toD] at hy
    ·obtain ⟨h1, h2⟩ := Xdv hO n v ds y r hy; exact .inl ⟨h2.trans a, ds, q, h1⟩
    ·obtain ⟨h1, h2⟩ := Xdv hO n v _ y r hy; exact .inr ⟨h2.trans a, h1⟩
   ·cases e
  ·cases e

theorem PCall.borrow {P : Prg} {f n : Nat} {vs : List V} {ds : List D} {K : V → Prop} (hd : V.toDs ob n vs = some ds) (h : PCall P f (ds.map .d) [] fun v => v.flatR = true ∧ K v) : PCall P f vs ob K := by
 refine ⟨fun w ρ args hO hg hr => ?_⟩
 let ρ0 : Env := ⟨fun _ => none, Xn9, ρ.gl⟩
 have hno : ∀ b, ¬ own ρ0 b := fun b h => h.elim (fun ⟨_, _, h, _⟩ => by cases h) (fun h => h)
 have hO0 : OM w ρ0 [] := ⟨fun j x hx => (by simp [lookO] at hx), fun j o hj => (by cases hj), fun i j o p b hi => (by cases hi), fun b hb => hb.elim, fun b o hb => ⟨(hO.glb b o hb).1, hno b⟩, fun b hb => absurd (.inl hb) (hno b), trivial⟩
 have hr0 : V.reps w ρ0 (ds.map .d) args := by
  rw [Xd7]
  have := Xau hO vs args ds hr hd
  exact D.repT_mono (ow := Xn9) (fun _ _ _ => ⟨rfl, hno _⟩) _ _ this
 refine (h.run w ρ0 args hO0 hg hr0).mono fun e w' ⟨v, u, ⟨k1, k2⟩, he, r, x⟩ => ⟨v, u, k2, he, V.flatR_rep k1 r, x⟩
theorem PCall.data {P : Prg} {f : Nat} {vs : List V} {ds : List D} {K : V → Prop} (hd : vs = ds.map .d) (h : PCall P f (ds.map .d) ob K) : PCall P f vs ob K := by subst hd; exact h
end

section
variable (ob : Objs) (n k f : Nat) (x : D) (v : V) (vs : List V) (p : List Nat)
@[simp] theorem toD_d : V.toD ob (n + 1) (.d x) = some x := by simp only [V.toD]
@[simp] theorem toD_ptr : V.toD ob (n + 1) (.ptr k p) = refO (V.toD ob n) (atO ob k p) := by simp only [V.toD]
@[simp] theorem toD_sl (m : Nat) : V.toD ob (n + 1) (.sl k m) = Xk0 m (lookO ob k) := by simp only [V.toD]
@[simp] theorem lentO_s (m E sz : Nat) (xs : List D) : Xk0 m (some (.arr E sz xs)) = if sz ≠ 0 ∧ m = xs.length then some (.list sz xs) else none := by simp only [Xk0]
@[simp] theorem refO_s (g : V → Option D) : refO g (some v) = (g v).map .ref := by simp only [refO]
def fnO (f : Nat) : Option (List D) → Option (List D) → Option D
 | some l, some m => some (.fn f l m)
 | _, _ => none
@[simp] theorem toD_fn (l l' : List V) : V.toD ob (n + 1) (.fn f l l') = fnO f (Qe (V.toD ob n) l) (Qe (V.toD ob n) l') := by
 simp only [V.toD]; cases Qe (V.toD ob n) l <;> cases Qe (V.toD ob n) l' <;> rfl
@[simp] theorem fnO_ss (l l' : List D) : fnO f (some l) (some l') = some (.fn f l l') := by simp only [fnO]
@[simp] theorem toD_agg : V.toD ob (n + 1) (.agg vs) = (Qe (V.toD ob n) vs).map .agg := by simp only [V.toD]
@[simp] theorem toDs_eq : V.toDs ob n vs = Qe (V.toD ob n) vs := by simp only [V.toDs]
@[simp] theorem seqO_nil {α β : Type} (g : α → Option β) : Qe g [] = some [] := by simp only [Qe]
def Xzv {β : Type} : Option β → Option (List β) → Option (List β)
 | some y, some l => some (y :: l)
 | _, _ => none
@[simp] theorem seqO_cons {α β : Type} (g : α → Option β) (a : α) (l : List α) : Qe g (a :: l) = Xzv (g a) (Qe g l) := by
 simp only [Qe]; cases g a <;> cases Qe g l <;> rfl
@[simp] theorem seqC_ss {β : Type} (y : β) (l : List β) : Xzv (some y) (some l) = some (y :: l) := by simp only [Xzv]
end
attribute [simp] D.flat D.flats V.flat V.flatR
end Go.Ab
/- Nil slices taken as empty ones, at any depth of data. Over any program; no condition. -/
namespace Go.Ab
open Go
mutual
def D.le : D → D → Prop
 | .nils, y => y = .nils ∨ ∃ sz, y = .list sz []
 | .agg xs, y => ∃ ys, y = .agg ys ∧ D.les xs ys
 | .list a xs, y => ∃ ys, y = .list a ys ∧ D.les xs ys
 | .int k n, y => y = .int k n
 | .bool b, y => y = .bool b
 | .str s, y => y = .str s
 | .nili, y => y = .nili
 | .nilp, y => y = .nilp
 | .nilf, y => y = .nilf
 | .nilm, y => y = .nilm
 | .ref x, y => y = .ref x
 | .iface t x, y => y = .iface t x
 | .fn f a b, y => y = .fn f a b
def D.les : List D → List D → Prop
 | [], l => l = []
 | x :: r, l => ∃ y s, l = y :: s ∧ D.le x y ∧ D.les r s
end
mutual
theorem D.le.same : ∀ {x y : D}, D.le x y → y.sz = x.sz ∧ y.isAgg = x.isAgg
 | .nils, y, h => by
  simp only [D.le] at h
  rcases h with rfl | ⟨_, rfl⟩ <;> exact ⟨by simp [D.sz], rfl⟩
 | .agg xs, y, h => by
  simp only [D.le] at h
  obtain ⟨ys, rfl, h⟩ := h
  exact ⟨by simp only [D.sz]; exact D.les.same h, rfl⟩
 | .list a xs, y, h => by
  simp only [D.le] at h
  obtain ⟨ys, rfl, h⟩ := h
  exact ⟨by simp only [D.sz], rfl⟩
 | .int .., y, h | .bool .., y, h | .str .., y, h | .nili, y, h | .nilp, y, h | .nilf, y, h | .nilm, y, h | .ref .., y, h | .iface .., y, h | .fn .., y, h => by
  simp only [D.le] at h; subst h; exact ⟨rfl, rfl⟩
theorem D.les.same : ∀ {xs ys : List D}, D.les xs ys → D.szs ys = D.szs xs
 | [], ys, h => by simp only [D.les] at h; subst h; rfl
 | x :: r, ys, h => by
  simp only [D.les] at h
  obtain ⟨y, s, rfl, h1, h2⟩ := h
  simp only [D.szs, h1.same.1, h2.same]
end
theorem D.les.length : ∀ {xs ys : List D}, D.les xs ys → ys.length = xs.length
 | [], ys, h => by simp only [D.les] at h; subst h; rfl
 | x :: r, ys, h => by
  simp only [D.les] at h
  obtain ⟨y, s, rfl, h1, h2⟩ := h
  simp [D.les.length h2]
theorem D.les.szAll : ∀ {xs ys : List D} {n : Nat}, D.les xs ys → (∀ x ∈ xs, x.sz = n) → ∀ y ∈ ys, y.sz = n
 | [], ys, n, h, _ => by simp only [D.les] at h; subst h; simp
 | x :: r, ys, n, h, hx => by
  simp only [D.les] at h
  obtain ⟨y, s, rfl, h1, h2⟩ := h
  intro z hz
  rcases List.mem_cons.1 hz with rfl | hz
  ·rw [h1.same.1]; exact hx x (by simp)
  ·exact D.les.szAll h2 (fun u hu => hx u (by simp [hu])) z hz
section
variable {w : World} {ow : Nat → Prop}
mutual
theorem D.le.rep : ∀ {x y : D} {cs : List Value}, D.le x y → x.rep w ow cs → y.rep w ow cs
 | .nils, y, cs, h, hr => by
  simp only [D.le] at h
  rcases h with rfl | ⟨sz, rfl⟩
  ·exact hr
  ·simp only [D.rep] at hr ⊢; exact .inl ⟨trivial, hr⟩
 | .agg xs, y, cs, h, hr => by
  simp only [D.le] at h
  obtain ⟨ys, rfl, h⟩ := h
  simp only [D.rep] at hr ⊢
  exact D.les.rep h hr
 | .list a xs, y, cs, h, hr => by
  simp only [D.le] at h
  obtain ⟨ys, rfl, h⟩ := h
  simp only [D.rep] at hr ⊢
  have hl := h.length
  rcases hr with ⟨rfl, hr⟩ | ⟨ad, cap, vs, h1, h2, h3, h4, h5⟩
  ·refine .inl ⟨?_, hr⟩
   simpa using hl
  ·exact .inr ⟨ad, cap, vs, by rw [hl]; exact h1, by rw [hl]; exact h2, h3, D.les.rep h h4, h.szAll h5⟩
 | .int .., y, cs, h, hr | .bool .., y, cs, h, hr | .str .., y, cs, h, hr | .nili, y, cs, h, hr | .nilp, y, cs, h, hr | .nilf, y, cs, h, hr | .nilm, y, cs, h, hr | .ref .., y, cs, h, hr | .iface .., y, cs, h, hr | .fn .., y, cs, h, hr => by
  simp only [D.le] at h; subst h; exact hr
theorem D.les.rep : ∀ {xs ys : List D} {cs : List Value}, D.les xs ys → D.repL w ow xs cs → D.repL w ow ys cs
 | [], ys, cs, h, hr => by simp only [D.les] at h; subst h; exact hr
 | x :: r, ys, cs, h, hr => by
  simp only [D.les] at h
  obtain ⟨y, s, rfl, h1, h2⟩ := h
  simp only [D.repL] at hr ⊢
  obtain ⟨c1, c2, e, r1, r2⟩ := hr
  exact ⟨c1, c2, e, D.le.rep h1 r1, D.les.rep h2 r2⟩
end
end
mutual
theorem D.le.refl : ∀ x : D, D.le x x
 | .nils => by simp [D.le]
 | .agg xs => by simp only [D.le]; exact ⟨_, rfl, D.les.refl xs⟩
 | .list a xs => by simp only [D.le]; exact ⟨_, rfl, D.les.refl xs⟩
 | .int .. | .bool .. | .str .. | .nili | .nilp | .nilf | .nilm | .ref .. | .iface .. | .fn .. => by simp only [D.le]
theorem D.les.refl : ∀ xs : List D, D.les xs xs
 | [] => by simp only [D.les]
 | x :: r => by simp only [D.les]; exact ⟨_, _, rfl, D.le.refl x, D.les.refl r⟩
end
theorem D.le.nil (sz : Nat) : D.le .nils (.list sz []) := by simp [D.le]
theorem D.le.agg {xs ys : List D} (h : D.les xs ys) : D.le (.agg xs) (.agg ys) := by simp only [D.le]; exact ⟨_, rfl, h⟩
theorem D.le.list {sz : Nat} {xs ys : List D} (h : D.les xs ys) : D.le (.list sz xs) (.list sz ys) := by simp only [D.le]; exact ⟨_, rfl, h⟩
theorem D.les.nil : D.les [] [] := by simp only [D.les]
theorem D.les.cons {x y : D} {r s : List D} (h : D.le x y) (h' : D.les r s) : D.les (x :: r) (y :: s) := by simp only [D.les]; exact ⟨_, _, rfl, h, h'⟩
theorem D.les.map {α : Type} {f g : α → D} : ∀ {l : List α}, (∀ x ∈ l, D.le (f x) (g x)) → D.les (l.map f) (l.map g)
 | [], _ => D.les.nil
 | x :: r, h => D.les.cons (h x (by simp)) (D.les.map fun y hy => h y (by simp [hy]))
theorem Xnp {w : World} {ρ : Env} : ∀ {xs ys : List D} {us : List Value}, D.les xs ys → V.reps w ρ (xs.map .d) us → V.reps w ρ (ys.map .d) us
 | [], ys, us, h, hr => by simp only [D.les] at h; subst h; exact hr
 | x :: r, ys, us, h, hr => by
  simp only [D.les] at h
  obtain ⟨y, s, rfl, h1, h2⟩ := h
  simp only [List.map_cons] at hr ⊢
  cases us with
  | nil => simp [V.reps] at hr
  | cons u us =>
   simp only [V.reps] at hr ⊢
   obtain ⟨u1, us1, e, hu, hus⟩ := hr
   cases e
   refine ⟨_, _, rfl, ?_, Xnp h2 hus⟩
   rcases Uv.1 hu with ⟨p, ds, q, hd⟩ | ⟨p, hd⟩
   ·exact Uv.2 (.inl ⟨by rw [h1.same.2]; exact p, ds, q, h1.rep hd⟩)
   ·exact Uv.2 (.inr ⟨by rw [h1.same.2]; exact p, h1.rep hd⟩)
theorem PCall.le {P : Prg} {f : Nat} {ob : Objs} {xs ys : List D} {K : V → Prop} (h : D.les xs ys) (hc : PCall P f (ys.map .d) ob K) : PCall P f (xs.map .d) ob K :=
 ⟨fun w ρ args ho hg hr => hc.run w ρ args ho hg (Xnp h hr)⟩
end Go.Ab
/- Plain functions of the lexer: classes of bytes, names, numbers, tokens. No program. -/
namespace Go.Lx
open Go Go.Ab

structure Tok where
 kind : Int
 text : List UInt8
 n : Int
 at_ : Int
 deriving DecidableEq, Inhabited

def Tok.enc (t : Tok) : D := .agg [.int .i64 t.kind, .str t.text, .int .i64 t.n, .int .i64 t.at_]
def Xt9 (l : List Tok) : D := .list 4 (l.map Tok.enc)

def Zm (c : Int) : Bool := decide (97 ≤ c ∧ c ≤ 122 ∨ 65 ≤ c ∧ c ≤ 90)
def Jk (c : Int) : Bool := decide (48 ≤ c ∧ c ≤ 57)
def Xq7 (c : Int) : Bool := decide (c = 32 ∨ c = 9 ∨ c = 10 ∨ c = 13)
def Xgb (c : Int) : Bool := Zm c || Jk c || decide (c = 95)
def signs : List UInt8 := [123, 125, 40, 41, 59, 44, 61, 35, 47, 60, 33, 45, 46, 58, 43]
def signI (c : Int) : Bool := signs.any fun b => decide ((b.toNat : Int) = c)

def nameB (s : List UInt8) : Bool := decide (1 ≤ s.length ∧ s.length ≤ 32) && Zm (s.getD 0 0).toNat && s.all fun c => Xgb c.toNat

theorem Xj8 {s : List UInt8} {p : UInt8 → Bool} : s.all p = true ↔ ∀ i, i < s.length → p (s.getD i 0) = true := by
 rw [List.all_eq_true]
 constructor
 ·intro h i hi; simp [hi]; exact h _ (List.getElem_mem hi)
 ·intro h x hx
  obtain ⟨i, hi, rfl⟩ := List.getElem_of_mem hx
  have := h i hi
  simpa [hi] using this
end Go.Lx
/- Sources, tables and questions as they are held in memory: plain structures and what they read as. No program. -/
namespace Go.Sx
open Go Go.Ab Go.Lx
abbrev B := List UInt8
abbrev iD (n : Int) : D := .int .i64 n
def Xe (l : List B) : D := .list 1 (l.map .str)
structure RTerm where
 name : B
 path : B
 var : Int
 field : Int
 n : Int
structure RFrom where
 name : B
 kind : B
 schema : Int
 of_ : RTerm
structure RAtom where
 op : Int
 a : RTerm
 b : RTerm
structure RSet where
 path : B
 field : Int
 term : RTerm
structure RRule where
 head : B
 schema : Int
 froms : List RFrom
 wheres : List RAtom
 sets : List RSet
structure RMove where
 to_ : B
 from_ : B
 b : Int
 a : Int
 shift : Int
structure RConvert where
 from_ : B
 to_ : B
 a : Int
 b : Int
 moves : List RMove
structure RRef where
 name : B
 path : B
 schema : Int
 field : Int
structure RPurpose where
 name : B
 may : List RRef
 most : Int
structure RUnit where
 name : B
 of_ : B
 factor : Int
 base : Int
 scale : Int
structure RType where
 kind : Int
 lo : Int
 hi : Int
 of_ : B
 unit : Int
 names : List B
structure RField where
 name : B
 type : RType
 w0 : Int
 w1 : Int
 w2 : Int
 w3 : Int
structure RDepend where
 names : List B
 name : B
 from_ : List Int
 to_ : Int
structure RSchema where
 name : B
 by_ : B
 issuer : Int
 version : Int
 fields : List RField
 depends : List RDepend
structure RSrc where
 issuers : List B
 units : List RUnit
 schemas : List RSchema
 rules : List RRule
 converts : List RConvert
 purposes : List RPurpose
def Xd3 (l : List Int) : D := .list 1 (l.map iD)
def RTerm.enc (t : RTerm) : D := .agg [.str t.name, .str t.path, iD t.var, iD t.field, iD t.n]
def RFrom.enc (f : RFrom) : D := .agg [.str f.name, .str f.kind, iD f.schema, f.of_.enc]
def RAtom.enc (a : RAtom) : D := .agg [iD a.op, a.a.enc, a.b.enc]
def RSet.enc (s : RSet) : D := .agg [.str s.path, iD s.field, s.term.enc]
def RRule.enc (r : RRule) : D := .agg [.str r.head, iD r.schema, .list 8 (r.froms.map RFrom.enc), .list 11 (r.wheres.map RAtom.enc), .list 7 (r.sets.map RSet.enc)]
def RMove.enc (m : RMove) : D := .agg [.str m.to_, .str m.from_, iD m.b, iD m.a, iD m.shift]
def RConvert.enc (c : RConvert) : D := .agg [.str c.from_, .str c.to_, iD c.a, iD c.b, .list 5 (c.moves.map RMove.enc)]
def RRef.enc (r : RRef) : D := .agg [.str r.name, .str r.path, iD r.schema, iD r.field]
def RPurpose.enc (p : RPurpose) : D := .agg [.str p.name, .list 4 (p.may.map RRef.enc), iD p.most]
def RUnit.enc (u : RUnit) : D := .agg [.str u.name, .str u.of_, iD u.factor, iD u.base, iD u.scale]
def RType.enc (t : RType) : D := .agg [iD t.kind, iD t.lo, iD t.hi, .str t.of_, iD t.unit, Xe t.names]
def RField.enc (f : RField) : D := .agg [.str f.name, f.type.enc, .agg [iD f.w0, iD f.w1, iD f.w2, iD f.w3]]
def RDepend.enc (d : RDepend) : D := .agg [Xe d.names, .str d.name, Xd3 d.from_, iD d.to_]
def RSchema.enc (s : RSchema) : D := .agg [.str s.name, .str s.by_, iD s.issuer, iD s.version, .list 11 (s.fields.map RField.enc), .list 4 (s.depends.map RDepend.enc)]
def RSrc.enc (s : RSrc) : D := .agg [Xe s.issuers, .list 5 (s.units.map RUnit.enc), .list 6 (s.schemas.map RSchema.enc), .list 5 (s.rules.map RRule.enc), .list 5 (s.converts.map RConvert.enc), .list 3 (s.purposes.map RPurpose.enc)]

structure RRule.small (r : RRule) : Prop where
 froms : r.froms.length ≤ 9223372036854775807
 wheres : r.wheres.length ≤ 9223372036854775807
 sets : r.sets.length ≤ 9223372036854775807
structure RDepend.small (r : RDepend) : Prop where
 names : r.names.length ≤ 9223372036854775807
 from_ : r.from_.length ≤ 9223372036854775807
structure RSchema.small (r : RSchema) : Prop where
 fields : r.fields.length ≤ 9223372036854775807
 depends : r.depends.length ≤ 9223372036854775807
 names : ∀ f ∈ r.fields, f.type.names.length ≤ 9223372036854775807
 deps : ∀ d ∈ r.depends, d.small
structure RSrc.small (s : RSrc) : Prop where
 issuers : s.issuers.length ≤ 9223372036854775807
 units : s.units.length ≤ 9223372036854775807
 schemas : s.schemas.length ≤ 9223372036854775807
 rules : s.rules.length ≤ 9223372036854775807
 converts : s.converts.length ≤ 9223372036854775807
 purposes : s.purposes.length ≤ 9223372036854775807
 schema : ∀ x ∈ s.schemas, x.small
 rule : ∀ x ∈ s.rules, x.small
 moves : ∀ x ∈ s.converts, x.moves.length ≤ 9223372036854775807
 may : ∀ x ∈ s.purposes, x.may.length ≤ 9223372036854775807
structure RTab where
 src : RSrc
 order : List Int
def RTab.enc (t : RTab) : D := .agg [t.src.enc, Xd3 t.order]
structure RVar where
 name : B
 kind : B
 schema : Int
 other : Bool
def RVar.enc (v : RVar) : D := .agg [.str v.name, .str v.kind, iD v.schema, .bool v.other]
inductive RForm where
 | mk (op n : Int) (kids : List RForm) (atom : RAtom)
def RForm.op : RForm → Int | .mk o _ _ _ => o
def RForm.n : RForm → Int | .mk _ n _ _ => n
def RForm.kids : RForm → List RForm | .mk _ _ k _ => k
def RForm.atom : RForm → RAtom | .mk _ _ _ a => a
mutual
def RForm.enc : RForm → D
 | .mk o n k a => .agg [iD o, iD n, .list 14 (RForm.encs k), a.enc]
def RForm.encs : List RForm → List D
 | [] => []
 | f :: r => f.enc :: RForm.encs r
end
theorem RForm.encs_eq : ∀ l : List RForm, RForm.encs l = l.map RForm.enc
 | [] => rfl
 | f :: r => by rw [RForm.encs, RForm.encs_eq r]; rfl
theorem RForm.enc_eq (f : RForm) : f.enc = .agg [iD f.op, iD f.n, .list 14 (f.kids.map RForm.enc), f.atom.enc] := by
 cases f; rw [RForm.enc, RForm.encs_eq]; rfl
mutual
def RForm.small : RForm → Prop
 | .mk _ _ k _ => k.length ≤ 9223372036854775807 ∧ RForm.smalls k
def RForm.smalls : List RForm → Prop
 | [] => True
 | f :: r => f.small ∧ RForm.smalls r
end
theorem RForm.smalls_mem : ∀ {l : List RForm}, RForm.smalls l → ∀ f ∈ l, f.small
 | [], _, f, h => by cases h
 | g :: r, h, f, hf => by
  rw [RForm.smalls] at h
  rcases List.mem_cons.mp hf with rfl | hf
  ·exact h.1
  ·exact RForm.smalls_mem h.2 f hf
theorem RForm.small_eq {f : RForm} (h : f.small) : f.kids.length ≤ 9223372036854775807 ∧ ∀ k ∈ f.kids, k.small := by
 cases f; rw [RForm.small] at h; exact ⟨h.1, RForm.smalls_mem h.2⟩
structure RQ where
 name : B
 purpose : Int
 vars : List RVar
 form : RForm
def RQ.enc (q : RQ) : D := .agg [.str q.name, iD q.purpose, .list 4 (q.vars.map RVar.enc), q.form.enc]
structure RQ.small (q : RQ) : Prop where
 vars : q.vars.length ≤ 9223372036854775807
 form : q.form.small
end Go.Sx
/- Functions that defer a call, and deferred functions that recover. Over any program; no condition. -/
namespace Go.Ab
open Go


structure DCall (P : Prg) (f : Nat) (vs : List V) (ob : Objs) (rv : Option V) (K : Objs → Prop) : Prop where
 ret : rv = none → ∀ w ρ args, OM w ρ ob → ρ.gl = P.g → V.reps w ρ vs args → CallsD P.p f args.toArray .returning w (fun e u w' => (∃ v, e = .returned v) ∧ u = .returning ∧ ∃ ob' ρ', K ob' ∧ OM w' ρ' ob' ∧ Tr w ρ w' ρ')
 pan : ∀ v, rv = some v → ∀ w ρ args x, OM w ρ ob → ρ.gl = P.g → V.reps w ρ vs args → v.rep w ρ x → (∃ t y, x = .iface t y) → CallsD P.p f args.toArray (.panicking [{ v := x, recovered := false }]) w
  (fun e u w' => (∃ v, e = .returned v) ∧ u = .panicking [{ v := x, recovered := true }] ∧ ∃ ob' ρ', K ob' ∧ OM w' ρ' ob' ∧ Tr w ρ w' ρ')

def X0g : Op → Bool
 | .call { callee := .builtin .recover, .. } => true
 | _ => false
def Xjc (P : Program) (f n k : Nat) (its : List It) (s : S) : Bool := match P.funcs[f]? with
 | some fn => match fn.body with
  | some (.seq (.region _ ops false) code) => match ops.toList with
   | o :: os => decide (n ≤ fn.ntmps) && decide (k < fn.ntmps) && X0g o.op && o.dst == some k && o.guard.isNone && Y3 P fn.ntmps ops os its && S.chk P fn.ntmps code s && fn.results.isEmpty
   | [] => false
  | _ => false
 | none => false

def dQ (n : Nat) (K : Objs → Prop) : Zt
 | .normal, _, ob => Xx n K [] ob
 | .ret, _, ob => Xx n K [] ob
 | .panic _, _, _ => False
 | .exit _, _, _ => False

theorem Vb {P : Prg} {c : Ctx} (hg : P.g = c.g) {xo : Nat → Prop} {ops : Array Oper} {cs : List Frame} {Q : Exit → Act → List Frame → World → Prop} {K : Xb → Objs → Prop}
  (hK : ∀ sl ob ρ a w, K sl ob → Mod c xo ρ sl ob a w → Q .normal a cs w) :
  ∀ (l : List Oper) (j : Nat) (its : List It) (sl : Xb) (ob : Objs) (ρ : Env) (a : Act) (w : World), ops.toList.drop j = l → Y3 P.p c.N ops l its = true → rwp P K (fun _ _ _ => False) its sl ob → Mod c xo ρ sl ob a w → wpOpsS P.p ops Q (List.range' j l.length) a cs w
 | [], j, [], sl, ob, ρ, a, w, _, _, h, m => by simp only [List.length_nil, List.range'_zero, wpOpsS]; exact hK sl ob ρ a w h m
 | o :: r, j, i :: s, sl, ob, ρ, a, w, hd, hc, h, m => by
  simp only [Y3, Bool.and_eq_true] at hc
  obtain ⟨h1, h2⟩ := hc
  have hj : ops[j]? = some o := by
   have := congrArg (·[0]?) hd
   simpa using this
  have hd' : ops.toList.drop (j + 1) = r := by
   have := congrArg (List.drop 1) hd
   simpa [List.drop_drop] using this
  have step : ∀ (d : Option Nat) (x : I) (sl : Xb), SM w ρ sl a → Uj c.N o.dst d = true → x.chk P.p o.op = true → x.wp P sl ob (fun v ob' => rwp P K (fun _ _ _ => False) s (put sl d v) ob') (fun v ob' => False) →
    o.wp P.p a w (fun a' w' => wpOpsS P.p ops Q (List.range' (j + 1) r.length) a' cs w') (fun e a' w' => Q e a' cs w') := by
   intro d x sl hs hd hx hw
   refine I.sound (m.gl.trans hg.symm) hs m.om hx hw o rfl _ _ (fun v y ob' w' ρ' hk hr ho t => ?_) (fun u y ob' w' ρ' hk hr ho t => hk.elim)
   obtain ⟨g1, g2, g3⟩ := Xf hd m.size (hs.tr t) hr
   exact Vb hg hK r (j + 1) s _ ob' ρ' _ w' hd' h2 hk ⟨m.base.tr t, ho, g1, g2, g3.trans m.df, t.xo.trans m.xo, t.gl.trans m.gl⟩
  have fin : o.wp P.p a w (fun a' w' => wpOpsS P.p ops Q (List.range' (j + 1) r.length) a' cs w') (fun e a' w' => Q e a' cs w') → Region.wanted o (yielded ops a.tmps) = true → wpOpsS P.p ops Q (List.range' j (r.length + 1)) a cs w := by
   intro hw hwant
   rw [List.range'_succ]
   simp only [wpOpsS, hj, hwant, if_true]
   unfold Oper.wp at hw
   split
   ·rename_i w' hrun
    rw [hrun] at hw
    exact hw.elim
   ·exact hw
  simp only [List.length_cons]
  cases i with
  | op d x =>
   simp only [It.chk, Bool.and_eq_true, Option.isNone_iff_eq_none] at h1
   simp only [rwp] at h
   exact fin (step d x sl m.sm h1.1.1 h1.2 h) (by simp [Region.wanted, h1.1.2])
  | gop g want d x =>
   simp only [It.chk, Bool.and_eq_true] at h1
   simp only [rwp] at h
   rcases Yx (ops := ops) m.sm h1.1.2 h with ⟨hw, sl', hs, h⟩ | ⟨hw, sl', hs, h⟩
   ·exact fin (step d x sl' hs h1.1.1 h1.2 h) hw
   ·rw [List.range'_succ]
    simp only [wpOpsS, hj, hw, Bool.false_eq_true, if_false]
    obtain ⟨g1, g2, g3⟩ := Xf h1.1.1 m.size hs (Yk.2 rfl)
    exact Vb hg hK r (j + 1) s _ ob ρ _ w hd' h2 h ⟨m.base, m.om, g1, g2, g3.trans m.df, m.xo, m.gl⟩
 | [], _, _ :: _, _, _, _, _, _, _, hc, _, _ => by simp [Y3] at hc
 | _ :: _, _, [], _, _, _, _, _, _, hc, _, _ => by simp [Y3] at hc

theorem Xa6 {P : Prg} (hm : P.p.follows .mixedOrders = true) {f k : Nat} {its : List It} {keep : List Nat} {s : S} {vs : List V} {ob : Objs} {rv : Option V} {K : Objs → Prop} (hc : Xjc P.p f vs.length k its s = true)
  (h : rwp P (fun sl ob' => cwp P s (dQ (fresh ob) K) (Xc sl keep) ob') (fun _ _ _ => False) its ((k, rv.getD (.d .nili)) :: Ua 0 vs) ob) : DCall P f vs ob rv K := by
 unfold Xjc at hc
 split at hc
 ·rename_i fn hf
  split at hc
  ·rename_i id ops code hb
   split at hc
   ·rename_i o os hops
    simp only [Bool.and_eq_true, decide_eq_true_eq, Option.isNone_iff_eq_none, beq_iff_eq] at hc
    obtain ⟨⟨⟨⟨⟨⟨⟨hn, hk⟩, hrec⟩, hdst⟩, hgd⟩, hits⟩, hs⟩, hres⟩ := hc
    have hemp : fn.results = #[] := by simpa using hres
    have hres' : ∀ (t : Array Value) (w : World), (results fn t).run P.p w = .ok (.tuple #[]) w := fun t w => by simp [results, hemp]
    have hop : ∃ args ts, o.op = .call { callee := .builtin .recover, args := args, argTypes := ts } := by
     revert hrec; generalize o.op = op; intro hrec
     unfold X0g at hrec
     split at hrec
     ·exact ⟨_, _, rfl⟩
     ·simp at hrec
    obtain ⟨rargs, rts, hop⟩ := hop
    have hrun : ∀ (a : Act) (w : World), (execOp a.eval o).run P.p w = .ok .recover w := fun a w => by
     simp [execOp, hop, resolve, invoke, builtin]
    have ho0 : ops[0]? = some o := by
     have := congrArg (·[0]?) hops; simpa using this
    have hsize : ops.size = os.length + 1 := by
     have := congrArg List.length hops; simpa using this
    have hdrop : ops.toList.drop 1 = os := by rw [hops]; rfl
    have key : ∀ w ρ args, OM w ρ ob → ρ.gl = P.g → V.reps w ρ vs args → ∀ (u u' : FrameMode) (x : Value), (rv.getD (.d .nili)).rep w ρ x →
      (∀ (c0 : Frame) (cs : List Frame), c0.mode = u → (recoverD (c0 :: cs) = some (x, { c0 with mode := u' } :: cs)) ∨ (recoverD (c0 :: cs) = none ∧ x = .nilIface ∧ u' = u)) →
      CallsD P.p f args.toArray u w (fun e v w' => (∃ v, e = .returned v) ∧ v = u' ∧ ∃ ob' ρ', K ob' ∧ OM w' ρ' ob' ∧ Tr w ρ w' ρ') := by
     intro w ρ args hO hg hr u u' x hx hrecD
     refine callsD_of_wpS hf hb fun c0 cs hc0 => ?_
     let c : Ctx := ⟨w, Xh5 ρ, fn.ntmps, [], P.g, ρ.m, []⟩
     have hlen : args.length = vs.length := by simpa using Yq hr
     have m : Mod c ρ.xo ρ (Ua 0 vs) ob { tmps := args.toArray ++ Array.replicate (fn.ntmps - args.toArray.size) undef, defers := [] } w := by
      refine ⟨⟨Nat.le_refl _, fun _ _ _ => rfl, fun b h => .inr h, rfl, rfl, rfl, fun id o h => ⟨o, h, .refl o⟩, (fun p hp => by cases hp)⟩, hO, ?_, ?_, rfl, rfl, hg⟩
      ·refine V4 hr 0 _ (fun i hi => ?_)
       simp [Array.getElem?_append, hi]
      ·simp [c]; omega
     have hout : ∀ (e : Exit) (a' : Act) (w' : World) cs', cs' = { c0 with mode := u' } :: cs → lift c ρ.xo (dQ (fresh ob) K) e a' w' → bodyPostS P.p fn c0 cs (fun e v w' => (∃ v, e = .returned v) ∧ v = u' ∧ ∃ ob' ρ', K ob' ∧ OM w' ρ' ob' ∧ Tr w ρ w' ρ') e a' cs' w' := by
      rintro e a' w' cs' rfl ⟨ae, sl', ob', ρ', hq, he, m'⟩
      have old : ∀ kp id o, ρ.m id = some o → young (fresh ob) kp id = false := fun kp id o h0 => by
       obtain ⟨x, hx⟩ := hO.dom id o h0
       have hlt : ¬ fresh ob ≤ id := fun hle => by rw [Xv _ _ hle] at hx; cases hx
       simp [young, hlt]
      have tr : ∀ kp, Tr w ρ w' (ρ'.del (young (fresh ob) kp)) := fun kp => by
       have b2 := m'.base
       refine ⟨b2.size, fun b h1 h2 => b2.keep b h2 h1, fun b h1 => (b2.owns b (W2 h1)).symm, ?_, ?_, fun id o h1 => ?_, b2.tape, b2.os, b2.out⟩
       ·show ρ'.xo = ρ.xo; rw [m'.xo]
       ·show ρ'.gl = ρ.gl; rw [m'.gl, hg]
       ·obtain ⟨o', h3, h4⟩ := b2.same id o h1
        exact ⟨o', by simp only [Env.del, old kp id o h1]; exact h3, h4⟩
      have hfin : Xx (fresh ob) K [] ob' → a'.defers = [] ∧ ∃ u'', { c0 with mode := u' } :: cs = { c0 with mode := u'' } :: cs ∧ ∃ v, (results fn a'.tmps).run P.p w' = .ok v w' ∧ ((∃ v', Ending.returned v = .returned v') ∧ u'' = u' ∧ ∃ ob' ρ', K ob' ∧ OM w' ρ' ob' ∧ Tr w ρ w' ρ') := by
       rintro ⟨kp, _, k2, k3⟩
       exact ⟨m'.df, u', rfl, _, hres' _ _, ⟨_, rfl⟩, rfl, _, _, k3, m'.om.del k2, tr kp⟩
      cases ae with
      | normal => cases e <;> simp only [exM] at he; exact hfin hq
      | ret => cases e <;> simp only [exM] at he; exact hfin hq
      | exit n => exact hq.elim
      | panic v => exact hq.elim
     refine wpS_seq (wpS_region ?_)
     have hrange : List.range ops.size = 0 :: List.range' 1 os.length := by
      rw [List.range_eq_range', hsize, List.range'_succ]
     rw [hrange]
     have hwant : ∀ a : Act, Region.wanted o (yielded ops a.tmps) = true := fun a => by simp [Region.wanted, hgd]
     have hput : ∀ cs' : List Frame, cs' = { c0 with mode := u' } :: cs → wpOpsS P.p ops (Exit.thenS (code.wpS P.p (bodyPostS P.p fn c0 cs (fun e v w' => (∃ v, e = .returned v) ∧ v = u' ∧ ∃ ob' ρ', K ob' ∧ OM w' ρ' ob' ∧ Tr w ρ w' ρ'))) (bodyPostS P.p fn c0 cs (fun e v w' => (∃ v, e = .returned v) ∧ v = u' ∧ ∃ ob' ρ', K ob' ∧ OM w' ρ' ob' ∧ Tr w ρ w' ρ'))) (List.range' 1 os.length)
       (({ tmps := args.toArray ++ Array.replicate (fn.ntmps - args.toArray.size) undef, defers := [] } : Act).put o.dst x) cs' w := by
      intro cs' hcs'
      obtain ⟨g1, g2, g3⟩ := Xf (d := some k) (o := o.dst) (v := x) (N := fn.ntmps) (by simp [Uj, hdst, hk]) m.size m.sm hx
      refine Vb (c := c) (xo := ρ.xo) rfl (fun sl ob1 ρ1 a1 w1 hk1 m1 => ?_) os 1 its _ ob ρ _ w hdrop hits h ⟨m.base, m.om, g1, g2, g3, m.xo, m.gl⟩
      simp only [Exit.thenS]
      exact wpS_of_wp (wp_mono (X2 hm rfl code s _ _ _ ρ1 a1 w1 hs hk1 ⟨m1.base, m1.om, m1.sm.keep keep, m1.size, m1.df, m1.xo, m1.gl⟩) (fun e a' w' hl => hout e a' w' cs' hcs' hl))
     have hwant0 : Region.wanted o (yielded ops (args.toArray ++ Array.replicate (fn.ntmps - args.toArray.size) undef)) = true := hwant { tmps := args.toArray ++ Array.replicate (fn.ntmps - args.toArray.size) undef, defers := [] }
     simp only [wpOpsS, ho0, hwant0, if_true, hrun]
     rcases hrecD c0 cs hc0 with hr1 | ⟨hr1, hx1, hu1⟩
     ·rw [hr1]; exact hput _ rfl
     ·rw [hr1]
      subst hx1
      refine hput _ ?_
      subst hu1; cases c0; simp only at hc0; subst hc0; rfl
    refine ⟨fun he w ρ args hO hg hr => ?_, fun v he w ρ args x hO hg hr hx hix => ?_⟩
    ·subst he
     exact key w ρ args hO hg hr .returning .returning .nilIface (Qm.2 rfl) (fun c0 cs hc0 => .inr ⟨by simp [recoverD, hc0], rfl, rfl⟩)
    ·subst he
     exact key w ρ args hO hg hr _ _ x hx (fun c0 cs hc0 => .inl (by simp [recoverD, hc0]))
   ·simp at hc
  ·simp at hc
 ·simp at hc


inductive FSt where
 | pre (s : S) (r : FSt)
 | dfr (its : List It) (keep : List Nat) (k : Nat) (s : S)

def Xx5 (k : Nat) : Op → Bool
 | .defer { callee := .value (.tmp j), args := args, .. } => j == k && args.isEmpty
 | _ => false
def FSt.chk (P : Program) (N : Nat) : Code → FSt → Bool
 | .seq a b, .pre s r => S.chk P N a s && FSt.chk P N b r
 | .seq (.region _ ops false) b, .dfr its _ k s => match ops.toList.reverse with
  | o :: os => Xx5 k o.op && o.dst.isNone && o.guard.isNone && Y3 P N ops os.reverse its && S.chk P N b s
  | [] => false
 | _, _ => false

def Xch (P : Prg) (g : Nat) (cl : List V) (rs : List RV) (K : V → Prop) : Zt
 | .normal, sl, ob => DCall P g cl ob none fun ob' => Zu sl ob' rs fun vs => Zg (fun l _ => K (Wb (l.map .d))) (V.givs ob' vs)
 | .ret, sl, ob => DCall P g cl ob none fun ob' => Zu sl ob' rs fun vs => Zg (fun l _ => K (Wb (l.map .d))) (V.givs ob' vs)
 | .panic v, sl, ob => (∃ t y, v = .iface t y ∨ ∃ z, v = .d (.iface t z)) ∧ DCall P g cl ob (some v) fun ob' => Zu sl ob' rs fun vs => Zg (fun l _ => K (Wb (l.map .d))) (V.givs ob' vs)
 | .exit _, _, _ => False
def Xz0 (P : Prg) (s : S) (rs : List RV) (K : V → Prop) (sl : Xb) (ob : Objs) : V → Prop
 | .fn g fi ca => Xg P.p g = true ∧ cwp P s (Xch P g (fi ++ ca) rs K) sl ob
 | _ => False
def fwp (P : Prg) (rs : List RV) (K : V → Prop) : FSt → Xb → Objs → Prop
 | .pre s r, sl, ob => cwp P s (Zn (fwp P rs K r) (J7 rs K)) sl ob
 | .dfr its keep k s, sl, ob => rwp P (fun sl ob => Xz0 P s rs K (Xc sl keep) ob (look (Xc sl keep) k)) (fun _ _ _ => False) its sl ob

def Xjl (P : Program) (f n : Nat) (s : FSt) (rs : List RV) : Bool := match P.funcs[f]? with
 | some fn => match fn.body with
  | some code => decide (n ≤ fn.ntmps) && FSt.chk P fn.ntmps code s && Va P fn.results.toList rs
  | none => false
 | none => false

theorem Jr {P : Prg} {c : Ctx} (hg : P.g = c.g) {xo : Nat → Prop} {ops : Array Oper} {Q : Exit → Act → World → Prop} {K : Xb → Objs → Prop} {l' : List Oper}
  (hK : ∀ sl ob ρ a w, K sl ob → Mod c xo ρ sl ob a w → wpList P.p ops Q l' a w) :
  ∀ (l : List Oper) (its : List It) (sl : Xb) (ob : Objs) (ρ : Env) (a : Act) (w : World), Y3 P.p c.N ops l its = true → rwp P K (fun _ _ _ => False) its sl ob → Mod c xo ρ sl ob a w → wpList P.p ops Q (l ++ l') a w
 | [], [], sl, ob, ρ, a, w, _, h, m => by simp only [List.nil_append]; exact hK sl ob ρ a w h m
 | o :: r, i :: s, sl, ob, ρ, a, w, hc, h, m => by
  simp only [Y3, Bool.and_eq_true] at hc
  obtain ⟨h1, h2⟩ := hc
  have step : ∀ (d : Option Nat) (x : I) (sl : Xb), SM w ρ sl a → Uj c.N o.dst d = true → x.chk P.p o.op = true → x.wp P sl ob (fun v ob' => rwp P K (fun _ _ _ => False) s (put sl d v) ob') (fun v ob' => False) → o.wp P.p a w (wpList P.p ops Q (r ++ l')) Q := by
   intro d x sl hs hd hx hw
   refine I.sound (m.gl.trans hg.symm) hs m.om hx hw o rfl _ _ (fun v y ob' w' ρ' hk hr ho t => ?_) (fun u y ob' w' ρ' hk hr ho t => hk.elim)
   obtain ⟨g1, g2, g3⟩ := Xf hd m.size (hs.tr t) hr
   exact Jr hg hK r s _ ob' ρ' _ w' h2 hk ⟨m.base.tr t, ho, g1, g2, g3.trans m.df, t.xo.trans m.xo, t.gl.trans m.gl⟩
  simp only [List.cons_append]
  cases i with
  | op d x =>
   simp only [It.chk, Bool.and_eq_true, Option.isNone_iff_eq_none] at h1
   simp only [rwp] at h
   simp only [wpList, Region.wanted, h1.1.2, if_true]
   exact .inl (step d x sl m.sm h1.1.1 h1.2 h)
  | gop g want d x =>
   simp only [It.chk, Bool.and_eq_true] at h1
   simp only [rwp] at h
   simp only [wpList]
   rcases Yx (ops := ops) m.sm h1.1.2 h with ⟨hw, sl', hs, h⟩ | ⟨hw, sl', hs, h⟩
   ·rw [if_pos hw]
    exact .inl (step d x sl' hs h1.1.1 h1.2 h)
   ·rw [hw]
    simp only [Bool.false_eq_true, if_false]
    obtain ⟨g1, g2, g3⟩ := Xf h1.1.1 m.size hs (Yk.2 rfl)
    exact Jr hg hK r s _ ob ρ _ w h2 h ⟨m.base, m.om, g1, g2, g3.trans m.df, m.xo, m.gl⟩
 | [], _ :: _, _, _, _, _, _, hc, _, _ => by simp [Y3] at hc
 | _ :: _, [], _, _, _, _, _, hc, _, _ => by simp [Y3] at hc

section
variable {P : Prg} {w0 : World} {ρ0 : Env}
def Xoo (w0 : World) (ρ0 : Env) (K : V → Prop) : Ending → World → Prop := fun e w' => ∃ v u, K v ∧ e = .returned u ∧ v.rep w' ρ0 u ∧ Ext w0 w'
theorem Xid {c : Ctx} (h0 : c.w0 = w0) (hex : ∀ b, ¬ c.ex b) {w' : World} {ρ' : Env} {sl : Xb} {ob : Objs} {a : Act} {fn : Func} {rs : List RV} {K : V → Prop} (hb : Base c w' ρ') (ho : OM w' ρ' ob) (hs : SM w' ρ' sl a) (hx : ρ'.xo = own ρ0)
  (hc : Va P.p fn.results.toList rs = true) (h : Zu sl ob rs fun vs => Zg (fun l _ => K (Wb (l.map .d))) (V.givs ob vs)) : ∃ v, (results fn a.tmps).run P.p w' = .ok v w' ∧ Xoo w0 ρ0 K (.returned v) w' := by
 obtain ⟨vs, us, hk, hrep, hrun⟩ := Z7 (P := P.p) (fn := fn) hs ho hc h
 cases hgv : V.givs ob vs with
 | none => simp [hgv, Zg] at hk
 | some q =>
  obtain ⟨l, ob2⟩ := q
  simp only [hgv, Zg] at hk
  obtain ⟨ρ2, t2, o2, hr2⟩ := Ur vs us ho hrep hgv
  have mo2 : Xc6 w' (own ρ2) w' (own ρ0) := fun b h1 _ => ⟨rfl, fun h2 => h1 (.inr (by rw [t2.xo, hx]; exact h2))⟩
  have hrep' := Wr mo2 _ _ l rfl hr2
  have hext : Ext w0 w' := by subst h0; exact ⟨hb.size, fun b h => hb.keep b h (hex b), hb.tape, hb.os, hb.out⟩
  exact ⟨Xmn us, hrun, Wb (l.map .d), Xmn us, hk, rfl, V0 hrep', hext⟩

theorem Xeg (hm : P.p.follows .mixedOrders = true) {c : Ctx} (hg : P.g = c.g) (h0 : c.w0 = w0) (hex : ∀ b, ¬ c.ex b) (hdf : c.df = []) (hm0 : ∀ id, c.m0 id = none) {fn : Func} {rs : List RV} {K : V → Prop} (hres : Va P.p fn.results.toList rs = true) :
  ∀ (code : Code) (s : FSt) (sl : Xb) (ob : Objs) (ρ : Env) (a : Act) (w : World), FSt.chk P.p c.N code s = true → fwp P rs K s sl ob → Mod c (own ρ0) ρ sl ob a w → code.wp P.p (bodyPostD P.p fn (Xoo w0 ρ0 K)) a w
 | .seq x y, .pre s r, sl, ob, ρ, a, w, hc, h, m => by
  simp only [FSt.chk, Bool.and_eq_true] at hc
  simp only [fwp] at h
  refine wp_seq (wp_mono (X2 hm hg x s _ sl ob ρ a w hc.1 h m) ?_)
  rintro e a' w' ⟨ae, sl', ob', ρ', hq, he, m'⟩
  cases ae with
  | normal =>
   cases e <;> simp only [exM] at he
   exact Xeg hm hg h0 hex hdf hm0 hres y r sl' ob' ρ' a' w' hc.2 hq m'
  | exit n => exact hq.elim
  | ret =>
   cases e <;> simp only [exM] at he
   show Leaves _ _ _ _ a'.defers .returning w'
   rw [m'.df, hdf]
   exact Xid h0 hex m'.base m'.om m'.sm m'.xo hres hq
  | panic v => exact hq.elim
 | .seq (.region id ops false) y, .dfr its keep k s, sl, ob, ρ, a, w, hc, h, m => by
  simp only [FSt.chk] at hc
  split at hc
  ·rename_i o os hops
   simp only [Bool.and_eq_true, Option.isNone_iff_eq_none] at hc
   obtain ⟨⟨⟨⟨hop, hdst⟩, hgd⟩, hits⟩, hs⟩ := hc
   simp only [fwp] at h
   have hl : ops.toList = os.reverse ++ [o] := by
    have := congrArg List.reverse hops; simpa using this
   refine wp_seq (wp_region_list ?_)
   rw [hl]
   refine Jr hg (fun sl0 ob1 ρ1 a1 w1 hk m0 => ?_) os.reverse its sl ob ρ a w hits h m
   have m1 : Mod c (own ρ0) ρ1 (Xc sl0 keep) ob1 a1 w1 := ⟨m0.base, m0.om, m0.sm.keep keep, m0.size, m0.df, m0.xo, m0.gl⟩
   generalize Xc sl0 keep = sl1 at hk m1
   unfold Xz0 at hk
   split at hk
   ·rename_i g fi ca e1
    obtain ⟨hcall, hk⟩ := hk
    have hrep := m1.sm k
    rw [e1] at hrep
    have hrep0 := hrep
    rw [Qw] at hrep
    obtain ⟨fs, gs, hv, hr1, hr2⟩ := hrep
    obtain ⟨args, ts, hop'⟩ : ∃ args ts, o.op = .defer { callee := .value (.tmp k), args := args, argTypes := ts } ∧ args = #[] := by
     revert hop; generalize o.op = op; intro hop
     unfold Xx5 at hop
     split at hop
     ·simp only [Bool.and_eq_true, beq_iff_eq] at hop
      obtain ⟨rfl, hop⟩ := hop
      exact ⟨_, _, rfl, by simpa using hop⟩
     ·simp at hop
    obtain ⟨hop', rfl⟩ := hop'
    let d : Deferred := { target := .fn (.func g) gs.toArray, args := fs.toArray ++ #[] }
    have hrun : (execOp a1.eval o).run P.p w1 = .ok (.defer d) w1 := by
     have : a1.eval (.tmp k) = .func (.func g) fs.toArray gs.toArray := hv
     simp [execOp, hop', resolve, this, Deferred.ofValue, d]
    simp only [wpList, Region.wanted, hgd, if_true]
    left
    unfold Oper.wp
    rw [hrun]
    simp only [Oper.upon, hdst, Act.put]
    let c2 : Ctx := ⟨c.w0, c.ex, c.N, [d], c.g, c.m0, [(.fn g fi ca, .func (.func g) fs.toArray gs.toArray)]⟩
    have m2 : Mod c2 (own ρ0) ρ1 sl1 ob1 { a1 with defers := d :: a1.defers } w1 := by
     refine ⟨⟨m1.base.size, m1.base.keep, m1.base.owns, m1.base.tape, m1.base.os, m1.base.out, m1.base.same, fun p hp => ?_⟩, m1.om, m1.sm, m1.size, ?_, m1.xo, m1.gl⟩
     ·simp only [c2, List.mem_singleton] at hp
      subst hp
      rw [hv] at hrep0
      exact hrep0
     ·show d :: a1.defers = [d]; rw [m1.df, hdf]
    show Code.wp _ _ _ _ _
    refine wp_mono (X2 hm (c := c2) hg y s _ _ _ ρ1 _ w1 hs hk m2) ?_
    rintro e a' w' ⟨ae, sl', ob', ρ', hq, he, m'⟩
    have hclo : V.reps w' ρ' (fi ++ ca) (fs ++ gs) := by
     have := m'.base.ext (.fn g fi ca, .func (.func g) fs.toArray gs.toArray) (by simp [c2])
     simp only at this
     rw [Qw] at this
     obtain ⟨fs', gs', e2, q1, q2⟩ := this
     simp only [Value.func.injEq, true_and] at e2
     obtain ⟨e3, e4⟩ := e2
     have e3 : fs = fs' := by simpa using congrArg Array.toList e3
     have e4 : gs = gs' := by simpa using congrArg Array.toList e4
     subst e3 e4
     exact Yw q1 q2
    have hinv : ∀ w, (invoke d.target d.args).run P.p w = .ok (.enter g (fs ++ gs).toArray) w := fun w => by
     simp only [d, invoke, Yz hcall]
     simp
    have hd : a'.defers = [d] := m'.df
    have after : ∀ (w'' : World) (ob2 : Objs) (ρ2 : Env), (Zu sl' ob2 rs fun vs => Zg (fun l _ => K (Wb (l.map .d))) (V.givs ob2 vs)) → OM w'' ρ2 ob2 → Tr w' ρ' w'' ρ2 → Leaves P.p fn a'.tmps (Xoo w0 ρ0 K) [] .returning w'' := by
     intro w'' ob2 ρ2 hq o2 t2
     exact Xid (c := c2) h0 hex (m'.base.tr t2) o2 (m'.sm.tr t2) (t2.xo.trans m'.xo) hres hq
    have hgl : ρ'.gl = P.g := m'.gl.trans hg.symm
    have hret : DCall P g (fi ++ ca) ob' none (fun ob' => Zu sl' ob' rs fun vs => Zg (fun l _ => K (Wb (l.map .d))) (V.givs ob' vs)) → Leaves P.p fn a'.tmps (Xoo w0 ρ0 K) a'.defers .returning w' := by
     intro hq
     rw [hd]
     refine leaves_cons (fv := .func g) (cap := gs.toArray) (dargs := fs.toArray ++ #[]) (by simp) (hinv w') ((hq.ret rfl w' ρ' (fs ++ gs) m'.om hgl hclo).mono ?_)
     rintro e u w'' ⟨⟨v, rfl⟩, rfl, ob2, ρ2, k2, o2, t2⟩
     exact after w'' ob2 ρ2 k2 o2 t2
    cases ae with
    | normal => cases e <;> simp only [exM] at he; exact hret hq
    | ret => cases e <;> simp only [exM] at he; exact hret hq
    | exit n => exact hq.elim
    | panic v =>
     cases e <;> simp only [exM] at he
     obtain ⟨u, rfl, hu⟩ := he
     obtain ⟨⟨t, y, hty⟩, hq⟩ := hq
     have hix : ∃ t y, u = .iface t y := by
      rcases hty with rfl | ⟨z, rfl⟩
      ·rw [Y7 (by simp [V.isAgg]) (by simp)] at hu
       simp only [V.repC, List.cons.injEq, and_true] at hu
       obtain ⟨c, hu, _⟩ := hu
       exact ⟨_, _, hu⟩
      ·rw [Vu] at hu
       obtain ⟨c, hu, _⟩ := hu
       exact ⟨_, _, hu⟩
     show Leaves _ _ _ _ a'.defers _ w'
     rw [hd]
     refine leaves_cons (fv := .func g) (cap := gs.toArray) (dargs := fs.toArray ++ #[]) (by simp) (hinv w') ((hq.pan v rfl w' ρ' (fs ++ gs) u m'.om hgl hclo hu hix).mono ?_)
     rintro e u' w'' ⟨⟨v', rfl⟩, rfl, ob2, ρ2, k2, o2, t2⟩
     exact after w'' ob2 ρ2 k2 o2 t2
   ·exact hk.elim
  ·simp at hc
 | .skip, _, _, _, _, _, _, hc, _, _ | .region _ _ _, _, _, _, _, _, _, hc, _, _ | .cond _ _ _, _, _, _, _, _, _, hc, _, _ | .block _ _, _, _, _, _, _, _, hc, _, _ | .loop _, _, _, _, _, _, _, hc, _, _ | .rangeFunc _ _ _ _, _, _, _, _, _, _, hc, _, _ | .exit _, _, _, _, _, _, _, hc, _, _ | .scope _, _, _, _, _, _, _, hc, _, _ | .label _, _, _, _, _, _, _, hc, _, _ | .goto _, _, _, _, _, _, _, hc, _, _ | .ret, _, _, _, _, _, _, hc, _, _ | .refuse _, _, _, _, _, _, _, hc, _, _ => by simp [FSt.chk] at hc
 | .seq (.region _ _ true) _, .dfr _ _ _ _, _, _, _, _, _, hc, _, _ | .seq .skip _, .dfr _ _ _ _, _, _, _, _, _, hc, _, _ | .seq (.seq _ _) _, .dfr _ _ _ _, _, _, _, _, _, hc, _, _ | .seq (.cond _ _ _) _, .dfr _ _ _ _, _, _, _, _, _, hc, _, _ | .seq (.block _ _) _, .dfr _ _ _ _, _, _, _, _, _, hc, _, _ | .seq (.loop _) _, .dfr _ _ _ _, _, _, _, _, _, hc, _, _ | .seq (.rangeFunc _ _ _ _) _, .dfr _ _ _ _, _, _, _, _, _, hc, _, _ | .seq (.exit _) _, .dfr _ _ _ _, _, _, _, _, _, hc, _, _ | .seq (.scope _) _, .dfr _ _ _ _, _, _, _, _, _, hc, _, _ | .seq (.label _) _, .dfr _ _ _ _, _, _, _, _, _, hc, _, _ | .seq (.goto _) _, .dfr _ _ _ _, _, _, _, _, _, hc, _, _ | .seq .ret _, .dfr _ _ _ _, _, _, _, _, _, hc, _, _ | .seq (.refuse _) _, .dfr _ _ _ _, _, _, _, _, _, hc, _, _ => by simp [FSt.chk] at hc

theorem Jz (hm : P.p.follows .mixedOrders = true) {f : Nat} {s : FSt} {rs : List RV} {ds : List D} {ob0 : Objs} {K : V → Prop} (hc : Xjl P.p f ds.length s rs = true)
  (h : fwp P rs K s (Ua 0 (ds.map .d)) []) : PCall P f (ds.map .d) ob0 K := by
 unfold Xjl at hc
 split at hc
 ·rename_i fn hf
  split at hc
  ·rename_i code hb
   simp only [Bool.and_eq_true, decide_eq_true_eq] at hc
   obtain ⟨⟨hn, h1⟩, h2⟩ := hc
   refine ⟨fun w ρ args hO hg hr => ?_⟩
   let ρ1 : Env := ⟨fun _ => none, own ρ, ρ.gl⟩
   let c : Ctx := ⟨w, fun _ => False, fn.ntmps, [], P.g, fun _ => none, []⟩
   have hnone : ∀ b, ¬ Xh5 ρ1 b := fun b ⟨_, _, h, _⟩ => by cases h
   have hlt : ∀ b, own ρ b → b < w.heap.size := fun b h => h.elim (fun ⟨_, _, h1, h2⟩ => Wt hO h1 h2) (hO.xlt b)
   have mo : Xc6 w (own ρ) w (own ρ1) := fun b h1 _ => ⟨rfl, fun h2 => h2.elim (hnone b) h1⟩
   have hr0 := Wr mo _ _ ds rfl hr
   have hlen : args.length = ds.length := by simpa using Yq hr
   have m : Mod c (own ρ) ρ1 (Ua 0 (ds.map .d)) [] { tmps := args.toArray ++ Array.replicate (fn.ntmps - args.toArray.size) undef, defers := [] } w := by
    refine ⟨⟨Nat.le_refl _, fun _ _ _ => rfl, fun b h => absurd h (hnone b), rfl, rfl, rfl, (fun id o h => by cases h), (fun p hp => by cases hp)⟩, ⟨fun j x hx => (by simp [lookO] at hx), fun j o hj => (by cases hj), fun i j o p b hi => (by cases hi), fun b hb => hlt b hb, fun b o hb => ⟨(hO.glb b o hb).1, fun h => h.elim (hnone b) (hO.glb b o hb).2⟩, fun b hb => absurd hb (hnone b), trivial⟩, ?_, ?_, rfl, rfl, hg⟩
    ·refine V4 hr0 0 _ (fun i hi => ?_)
     simp [Array.getElem?_append, hi]
    ·simp [c]; omega
   exact calls_of_wp_defers hf hb (Xeg (w0 := w) (ρ0 := ρ) hm (c := c) rfl rfl (fun _ h => h) rfl (fun _ => rfl) h2 code s _ _ _ _ w h1 h m)
  ·simp at hc
 ·simp at hc
end

inductive FS2 where
 | pre (s : S2) (r : FS2)
 | dfr (l : List It2) (keep : List (Nat × E)) (k : Nat) (s : S2)
def FSt.lift (fs : List Nat) : FSt → Option FS2
 | .pre s r => match s.lift fs, r.lift fs with
  | some s, some r => some (.pre s r)
  | _, _ => none
 | .dfr its kp k s => match Ue fs kp [] its [] [] [], s.lift fs with
  | some (l, keep), some s => some (.dfr l keep k s)
  | _, _ => none
def Xbz (P : Prg) (T : Tab) (s : S2) (rs : List RV) (K : V → Prop) (sl : Xb) (ob : Objs) : V → Prop
 | .fn g fi ca => Xg P.p g = true ∧ Yn P T s (Xch P g (fi ++ ca) rs K) sl ob
 | _ => False
def Xj2 (P : Prg) (T : Tab) (rs : List RV) (K : V → Prop) : FS2 → Xb → Objs → Prop
 | .pre s r, sl, ob => Yn P T s (Zn (Xj2 P T rs K r) (J7 rs K)) sl ob
 | .dfr l keep k s, sl, ob => Z3 P T (fun sl ob => Zf T sl ob keep ∧ Xbz P T s rs K (Wk T sl ob keep) ob (look (Wk T sl ob keep) k)) (fun _ _ _ => False) l sl ob

theorem X7i {T : Tab} {sl : Xb} {ob : Objs} : Inv T [] sl sl ob := fun k p e h => by
 simp [ent, Y1] at h; obtain ⟨rfl, rfl⟩ := h; exact ⟨fun _ => rfl, fun h => by cases h⟩

theorem FSt.lift_sound {P : Prg} {T : Tab} (hT : TOk P T) {fs : List Nat} {rs : List RV} {K : V → Prop} : ∀ (s : FSt) {s2 : FS2} {sl : Xb} {ob : Objs}, s.lift fs = some s2 → Xj2 P T rs K s2 sl ob → fwp P rs K s sl ob
 | .pre s r, s2, sl, ob, h, hc => by
  simp only [FSt.lift] at h
  split at h
  ·rename_i s' r' hs hr
   cases h
   simp only [Xj2] at hc
   simp only [fwp]
   refine S.lift_sound hT s hs (fun e sl ob h => ?_) hc
   cases e with
   | normal => exact FSt.lift_sound hT r hr h
   | _ => exact h
  ·cases h
 | .dfr its kp k s, s2, sl, ob, h, hc => by
  simp only [FSt.lift] at h
  split at h
  ·rename_i l keep s' hl hs
   cases h
   simp only [Xj2] at hc
   simp only [fwp]
   have hmono : ∀ sl ob, Xbz P T s' rs K sl ob (look sl k) → Xz0 P s rs K sl ob (look sl k) := fun sl ob h => by
    unfold Xbz at h
    split at h
    ·rename_i g fi ca e1
     simp only [Xz0, e1]
     exact ⟨h.1, S.lift_sound hT s hs (fun _ _ _ h => h) h.2⟩
    ·exact h.elim
   have := X6 (pk := []) hT (K := fun sl ob => Xbz P T s' rs K sl ob (look sl k)) (K' := fun sl ob => Xz0 P s rs K sl ob (look sl k)) (Pn := fun _ _ _ => False) (Pn' := fun _ _ _ => False) hmono (fun _ _ _ h => h) its X7i hl hc
   exact this
  ·cases h

theorem Qg {P : Prg} {p : Program} (hP : P.p = p) (hm : p.follows .mixedOrders = true) {f : Nat} {s : FSt} {rs : List RV} {ds : List D} {ob0 : Objs} {K : V → Prop} {fs : List Nat} {s2 : FS2} {T : Tab} (hc : Xjl p f ds.length s rs = true) (hl : s.lift fs = some s2) (hT : TOk P T)
  (h : Xj2 P T rs K s2 (Ua 0 (ds.map .d)) []) : PCall P f (ds.map .d) ob0 K := by
 subst hP
 exact Jz hm hc (FSt.lift_sound hT s hl h)

theorem Xa3 {P : Prg} {p : Program} (hP : P.p = p) (hm : p.follows .mixedOrders = true) {f k : Nat} {its : List It} {s : S} {vs : List V} {ob : Objs} {rv : Option V} {K : Objs → Prop} {fs keep : List Nat} {l : List It2} {kp : List (Nat × E)} {s2 : S2} {T : Tab} (hc : Xjc p f vs.length k its s = true)
  (hl : Ue fs keep [] its [] [] [] = some (l, kp)) (hs : s.lift fs = some s2) (hT : TOk P T)
  (h : Z3 P T (fun sl ob' => Zf T sl ob' kp ∧ Yn P T s2 (dQ (fresh ob) K) (Wk T sl ob' kp) ob') (fun _ _ _ => False) l ((k, rv.getD (.d .nili)) :: Ua 0 vs) ob) : DCall P f vs ob rv K := by
 subst hP
 refine Xa6 hm (keep := keep) hc ?_
 have := X6 (pk := []) hT (K := fun sl ob' => Yn P T s2 (dQ (fresh ob) K) sl ob') (K' := fun sl ob' => cwp P s (dQ (fresh ob) K) sl ob') (Pn := fun _ _ _ => False) (Pn' := fun _ _ _ => False) (fun sl ob h => S.lift_sound hT s hs (fun _ _ _ h => h) h) (fun _ _ _ h => h) its X7i hl h
 exact this

section
variable (P : Prg) (T : Tab) (sl : Xb) (ob : Objs) (rs : List RV) (K : V → Prop) (KB : Objs → Prop) (n k g : Nat) (v : V) (cl : List V)
@[simp] theorem fwp2_pre (s : S2) (r : FS2) : Xj2 P T rs K (.pre s r) sl ob = Yn P T s (Zn (Xj2 P T rs K r) (J7 rs K)) sl ob := by simp only [Xj2]
@[simp] theorem fwp2_dfr (l : List It2) (kp : List (Nat × E)) (s : S2) : Xj2 P T rs K (.dfr l kp k s) sl ob = Z3 P T (fun sl ob => Zf T sl ob kp ∧ Xbz P T s rs K (Wk T sl ob kp) ob (look (Wk T sl ob kp) k)) (fun _ _ _ => False) l sl ob := by simp only [Xj2]
@[simp] theorem dfrK2_f (s : S2) (fi ca : List V) : Xbz P T s rs K sl ob (.fn g fi ca) = (Xg P.p g = true ∧ Yn P T s (Xch P g (fi ++ ca) rs K) sl ob) := by simp only [Xbz]
@[simp] theorem dferQ_r : Xch P g cl rs K .ret sl ob = DCall P g cl ob none fun ob' => Zu sl ob' rs fun vs => Zg (fun l _ => K (Wb (l.map .d))) (V.givs ob' vs) := by simp only [Xch]
theorem Xvq : Xch P g cl rs K (.panic v) sl ob = ((∃ t y, v = .iface t y ∨ ∃ z, v = .d (.iface t z)) ∧ DCall P g cl ob (some v) fun ob' => Zu sl ob' rs fun vs => Zg (fun l _ => K (Wb (l.map .d))) (V.givs ob' vs)) := by simp only [Xch]
@[simp] theorem dferQ_pd (t : Nat) (z : D) : Xch P g cl rs K (.panic (.d (.iface t z))) sl ob = DCall P g cl ob (some (.d (.iface t z))) fun ob' => Zu sl ob' rs fun vs => Zg (fun l _ => K (Wb (l.map .d))) (V.givs ob' vs) := by
 rw [Xvq, eq_iff_iff]; exact ⟨fun h => h.2, fun h => ⟨⟨t, .any, .inr ⟨z, rfl⟩⟩, h⟩⟩
@[simp] theorem dQ_n : dQ n KB .normal sl ob = Xx n KB [] ob := by simp only [dQ]
@[simp] theorem dQ_p : dQ n KB (.panic v) sl ob = False := by simp only [dQ]
end
@[congr] theorem DCall_congr {P : Prg} {f : Nat} {vs vs' : List V} {ob ob' : Objs} {rv rv' : Option V} {K : Objs → Prop} (h : vs = vs') (h' : ob = ob') (h2 : rv = rv') : DCall P f vs ob rv K = DCall P f vs' ob' rv' K := by rw [h, h', h2]
@[congr] theorem dfrK2_congr {P : Prg} {T : Tab} {s : S2} {rs : List RV} {K : V → Prop} {sl sl' : Xb} {ob ob' : Objs} {v v' : V} (h : sl = sl') (h' : ob = ob') (h2 : v = v') : Xbz P T s rs K sl ob v = Xbz P T s rs K sl' ob' v' := by rw [h, h', h2]
@[congr] theorem fwp2_congr {P : Prg} {T : Tab} {rs : List RV} {K : V → Prop} {s : FS2} {sl sl' : Xb} {ob ob' : Objs} (h : sl = sl') (h' : ob = ob') : Xj2 P T rs K s sl ob = Xj2 P T rs K s sl' ob' := by rw [h, h']
end Go.Ab
/- More equations for states. Over any program; no condition. -/
namespace Go.Ab
open Go
section
variable {ob : Objs} {n k : Nat} {l : List Nat}
theorem Xqx (h : k < n) : young n l k = false := by simp [young]; omega
@[simp] theorem Vp (h : fresh ob ≤ n) : Ys (young n l) ob = ob := by
 induction ob with
 | nil => rfl
 | cons e r ih =>
  obtain ⟨i, y⟩ := e
  simp only [fresh] at h
  have hi : i < n ∧ fresh r ≤ n := by split at h <;> omega
  simp only [Ys, Xqx hi.1, Bool.false_eq_true, if_false, ih hi.2]
@[simp] theorem young_old_add (m : Nat) (h : (lookO ob k).isSome = true) : young (fresh ob + m) l k = false := by
 have : k < fresh ob := by
  rcases Nat.lt_or_ge k (fresh ob) with h1 | h1
  ·exact h1
  ·rw [Xv ob k h1] at h; cases h
 simp [young]; omega
mutual
theorem V.men_mono {p q : Nat → Bool} (h : ∀ j, q j = false → p j = false) : ∀ v : V, V.men q v = false → V.men p v = false
 | .d _, _ => rfl
 | .ptr id _, e => h id e
 | .sl id _, e => h id e
 | .sd id _, e => h id e
 | .mp id, e => h id e
 | .ep id _ _ _ _ _, e => h id e
 | .bs id _ _ _, e => h id e
 | .fn _ a b, e => by
  simp only [V.men, Bool.or_eq_false_iff] at e ⊢
  exact ⟨V.mens_mono h a e.1, V.mens_mono h b e.2⟩
 | .agg xs, e => by simp only [V.men] at e ⊢; exact V.mens_mono h xs e
 | .iface _ v, e => by simp only [V.men] at e ⊢; exact V.men_mono h v e
 | .tup xs, e => by simp only [V.men] at e ⊢; exact V.mens_mono h xs e
 | .undef, _ => rfl
 | .any, _ => rfl
theorem V.mens_mono {p q : Nat → Bool} (h : ∀ j, q j = false → p j = false) : ∀ xs : List V, V.mens q xs = false → V.mens p xs = false
 | [], _ => rfl
 | x :: r, e => by
  simp only [V.mens, Bool.or_eq_false_iff] at e ⊢
  exact ⟨V.men_mono h x e.1, V.mens_mono h r e.2⟩
end
theorem Xa7 {p q : Nat → Bool} (h : ∀ j, q j = false → p j = false) : ∀ xs : List (D × V), Ul q xs = false → Ul p xs = false
 | [], _ => rfl
 | (_, x) :: r, e => by
  simp only [Ul, Bool.or_eq_false_iff] at e ⊢
  exact ⟨V.men_mono h x e.1, Xa7 h r e.2⟩
theorem noMenO_mono {p q : Nat → Bool} (h : ∀ j, q j = false → p j = false) : ∀ ob : Objs, noMenO q ob = true → noMenO p ob = true
 | [], _ => rfl
 | (_, .box _ t) :: r, e => by
  simp only [noMenO, Bool.and_eq_true, Bool.not_eq_true'] at e ⊢
  exact ⟨V.men_mono h t e.1, noMenO_mono h r e.2⟩
 | (_, .vec _ _ t) :: r, e => by
  simp only [noMenO, Bool.and_eq_true, Bool.not_eq_true'] at e ⊢
  exact ⟨V.mens_mono h t e.1, noMenO_mono h r e.2⟩
 | (_, .map t) :: r, e => by
  simp only [noMenO, Bool.and_eq_true, Bool.not_eq_true'] at e ⊢
  exact ⟨Xa7 h t e.1, noMenO_mono h r e.2⟩
 | (_, .arr _ _ _) :: r, e => by simp only [noMenO] at e ⊢; exact noMenO_mono h r e
 | (_, .gone) :: r, e => by simp only [noMenO] at e ⊢; exact noMenO_mono h r e
theorem Xet (h : ∀ kp, noMenO (young (fresh ob) kp) ob = true) (hn : fresh ob ≤ n) : noMenO (young n l) ob = true :=
 noMenO_mono (fun j e => by simp [young] at e ⊢; intro hj; exact e (by omega)) ob (h l)
theorem X1 (m : Nat) (h : ∀ kp, noMenO (young (fresh ob) kp) ob = true) : noMenO (young (fresh ob + m) l) ob = true := Xet h (by omega)
theorem DCall.of_wf {P : Prg} {f : Nat} {vs : List V} {ob : Objs} {rv : Option V} {K : Objs → Prop} (h : (∀ kp, V.mens (young (fresh ob) kp) vs = false) → (∀ kp, noMenO (young (fresh ob) kp) ob = true) → DCall P f vs ob rv K) : DCall P f vs ob rv K := by
 have key : ∀ w ρ args, OM w ρ ob → V.reps w ρ vs args → DCall P f vs ob rv K := fun w ρ args hO hr => by
  have old : ∀ kp id o, ρ.m id = some o → young (fresh ob) kp id = false := fun kp id o h0 => by
   obtain ⟨x, hx⟩ := hO.dom id o h0
   have hlt : ¬ fresh ob ≤ id := fun hle => by rw [Xv _ _ hle] at hx; cases hx
   simp [young, hlt]
  exact h (fun kp => V.mens_dom (old kp) _ _ hr) (fun kp => Ze ob fun e he => (hO.one e.1 _ (hO.once.look e he)).noMen (old kp))
 exact ⟨fun e w ρ args hO hg hr => (key w ρ args hO hr).ret e w ρ args hO hg hr, fun v e w ρ args x hO hg hr hv hi => (key w ρ args hO hr).pan v e w ρ args x hO hg hr hv hi⟩
end
end Go.Ab
/- More equations: orders, maps, package variables, comparisons. Over any program; no condition. -/
namespace Go.Ab
open Go
section
variable {P : Prg} {T : Tab} {sl : Xb} {ob : Objs} {K : Xb → Objs → Prop} {Pn : V → Xb → Objs → Prop}
@[simp] theorem zm : owp P K Pn .done sl ob = K sl ob := by simp only [owp]
@[simp] theorem zn (i : Nat) (x : It) (r : Ot) : owp P K Pn (.one i x r) sl ob = itK P (owp P K Pn r) Pn x sl ob := by simp only [owp]
@[simp] theorem zl (l : Ots) : owp P K Pn (.br l) sl ob = Xc5 P K Pn l sl ob := by simp only [owp]
@[simp] theorem zp : Xc5 P K Pn .nil sl ob = True := by simp only [Xc5]
@[simp] theorem zo (i : Nat) (x : It) (r : Ot) (l : Ots) : Xc5 P K Pn (.cons i x r l) sl ob = (itK P (owp P K Pn r) Pn x sl ob ∧ Xc5 P K Pn l sl ob) := by simp only [Xc5]
@[simp] theorem qr (d : Option Nat) (i : I) : itK P K Pn (.op d i) sl ob = i.wp P sl ob (fun v ob' => K (put sl d v) ob') (fun v ob' => Pn v sl ob') := by simp only [itK]
@[simp] theorem qq (s : Nat) (b : Bool) (d : Option Nat) (i : I) : itK P K Pn (.gop s b d i) sl ob = gdK s b sl (fun sl => i.wp P sl ob (fun v ob' => K (put sl d v) ob') (fun v ob' => Pn v sl ob')) (fun sl => K (put sl d .undef) ob) (look sl s) := by simp only [itK]
@[simp] theorem qm (t : Ot) (kp pk : List Nat) (Q : Zt) : Yn P T (.rgT t kp pk) Q sl ob = owp P (fun sl ob => Q .normal (Xc sl kp) ob) (fun v sl ob => Q (.panic v) (Xc sl pk) ob) t sl ob := by simp only [Yn]
variable {KO PO : V → Objs → Prop} {KV : V → Prop}
@[simp] theorem iwp_mkm (r : Option A) : I.wp P sl ob KO PO (.mkm r) = (Xrp sl r ∧ KO (.mp (fresh ob)) ((fresh ob, .map []) :: ob)) := by simp only [I.wp]
@[simp] theorem iwp_lkp (kd z : D) (ok : Bool) (m k : A) : I.wp P sl ob KO PO (.lkp kd z ok m k) = Xn1 ob kd z ok (fun v => KO v ob) (m.ev sl) (k.ev sl) := by simp only [I.wp]
@[simp] theorem iwp_mset (kd : D) (m k v : A) : I.wp P sl ob KO PO (.mset kd m k v) = Qy ob kd (v.ev sl) KO (m.ev sl) (k.ev sl) := by simp only [I.wp]
@[simp] theorem za (g n : Nat) (ag : Bool) (x : D) : I.wp P sl ob KO PO (.gld g n ag x) = (Uz P g x ∧ x.sz = n ∧ (V.d x).isAgg = ag ∧ KO (.d x) ob) := by simp only [I.wp]
@[simp] theorem mkmK_some (x : A) : Xrp sl (some x) = Xev (x.ev sl) := by simp only [Xrp]
@[simp] theorem isIntV_int (k : IntKind) (n : Int) : Xev (.d (.int k n)) = True := by simp only [Xev]
@[simp] theorem lkpK_mp (kd z k : D) (ok : Bool) (id : Nat) : Xn1 ob kd z ok KV (.mp id) (.d k) = Xcc kd z ok k KV (lookO ob id) := by simp only [Xn1]
@[simp] theorem lkpKo_map (kd z k : D) (ok : Bool) (es : List (D × V)) : Xcc kd z ok k KV (some (.map es)) = (Xar kd k es ∧ KV (Xpt z ok (Qk k es))) := by simp only [Xcc]
@[simp] theorem msetK_mp (kd k : D) (v : V) (id : Nat) : Qy ob kd v KO (.mp id) (.d k) = V7 ob id kd k v KO (lookO ob id) := by simp only [Qy]
@[simp] theorem msetKo_map (kd k : D) (v : V) (id : Nat) (es : List (D × V)) : V7 ob id kd k v KO (some (.map es)) = (Xar kd k es ∧ v.sto = true ∧ KO .undef (setO ob id (.map (Xj1 k v es)))) := by simp only [V7]
@[simp] theorem lkpV_fs (z : D) (v : V) : Xpt z false (some v) = v := by simp only [Xpt]
@[simp] theorem lkpV_fn (z : D) : Xpt z false none = .d z := by simp only [Xpt]
@[simp] theorem findE_nil (k : D) : Qk k [] = none := by simp only [Qk]
@[simp] theorem updE_nil (k : D) (x : V) : Xj1 k x [] = [(k, x)] := by simp only [Xj1]
@[simp] theorem cwp_idxV (n z : Nat) (ag : Bool) (x y : A) : C.wp sl ob KV (.aix n z ag x y) = Xgs n z ag KV (x.ev sl) (y.ev sl) := by simp only [C.wp]
@[simp] theorem cval_eqD (ty : KT) (e : Bool) (x y : A) : C.val sl ob (.eqD ty e x y) = Xww e (x.ev sl) (y.ev sl) := by simp only [C.val]
@[simp] theorem cval_idxV (n z : Nat) (ag : Bool) (x y : A) : C.val sl ob (.aix n z ag x y) = Xiw (x.ev sl) (y.ev sl) := by simp only [C.val]
@[simp] theorem eqDV_d (e : Bool) (x y : D) : Xww e (.d x) (.d y) = .d (.bool (D.eqb x y == e)) := by simp only [Xww]
@[simp] theorem idxVV_d (k : IntKind) (xs : List D) (n : Int) : Xiw (.d (.agg xs)) (.d (.int k n)) = .d (xs.getD n.toNat default) := by simp only [Xiw]
def Xzn (ty : KT) : V → V → Prop
 | .d x, .d y => ty.fits x = true ∧ ty.fits y = true
 | _, _ => False
@[simp] theorem eqDS_d (ty : KT) (x y : D) : Xzn ty (.d x) (.d y) = (ty.fits x = true ∧ ty.fits y = true) := by simp only [Xzn]
@[simp] theorem cok_eqD (ty : KT) (e : Bool) (x y : A) : C.ok sl ob (.eqD ty e x y) = Xzn ty (x.ev sl) (y.ev sl) := by
 simp only [C.ok, C.wp, C.val]
 generalize x.ev sl = a; generalize y.ev sl = b
 cases a <;> cases b <;> simp [Xz4, Xzn, Xww]
end
attribute [simp] D.eqb D.eqbs KT.fits KT.fitss KT.fitsA
@[congr] theorem owp_congr {P : Prg} {K : Xb → Objs → Prop} {Pn : V → Xb → Objs → Prop} {t : Ot} {sl : Xb} {ob : Objs} : owp P K Pn t sl ob = owp P K Pn t sl ob := rfl
@[congr] theorem itK_congr {P : Prg} {K : Xb → Objs → Prop} {Pn : V → Xb → Objs → Prop} {t : It} {sl : Xb} {ob : Objs} : itK P K Pn t sl ob = itK P K Pn t sl ob := rfl
@[congr] theorem slgK_congr {ob : Objs} {n z : Nat} {K : V → Objs → Prop} {u u' : V} (h0 : u = u') : Xrs ob n z K u = Xrs ob n z K u' := by rw [h0]
@[congr] theorem slgKv_congr {n z : Nat} {K : D → Prop} {u u' : Option V} (h0 : u = u') : Xi8 n z K u = Xi8 n z K u' := by rw [h0]
@[congr] theorem lkpK_congr {ob : Objs} {kd z : D} {ok : Bool} {K : V → Prop} {u u' v v' : V} (h0 : u = u') (h1 : v = v') : Xn1 ob kd z ok K u v = Xn1 ob kd z ok K u' v' := by rw [h0, h1]
@[congr] theorem lkpKo_congr {kd z k : D} {ok : Bool} {K : V → Prop} {o o' : Option Ob} (h0 : o = o') : Xcc kd z ok k K o = Xcc kd z ok k K o' := by rw [h0]
@[congr] theorem msetK_congr {ob : Objs} {kd : D} {x x' : V} {K : V → Objs → Prop} {u u' v v' : V} (h : x = x') (h0 : u = u') (h1 : v = v') : Qy ob kd x K u v = Qy ob kd x' K u' v' := by rw [h, h0, h1]
@[congr] theorem msetKo_congr {ob : Objs} {id : Nat} {kd k : D} {x : V} {K : V → Objs → Prop} {o o' : Option Ob} (h0 : o = o') : V7 ob id kd k x K o = V7 ob id kd k x K o' := by rw [h0]
structure Pin {α : Type} (a : α) : Type where
 mk ::
section
variable {P : Prg} {T : Tab} {sl : Xb} {ob : Objs} {KO PO : V → Objs → Prop}
end
end Go.Ab
/- Abz -/
namespace Go.Ab
open Go
def X5s : Nat → Nat → List Nat
  | 0, _ => []
  | f + 1, n => match n with
    | 0 => []
    | m + 1 => ((m + 1) % 64) :: X5s f ((m + 1) / 64)
abbrev Zr (α : Type) := Option (α × List Nat)
def X2t : Nat → Nat → Nat → List Nat → Zr Nat
  | 0, a, _, s => some (a, s)
  | n + 1, a, p, d :: s => X2t n (a + d * p) (p * 64) s
  | _ + 1, _, _, [] => none
def rN : List Nat → Zr Nat
  | [] => none
  | d :: s => match d.ble 55 with
    | true => some (d, s)
    | false => match d.ble 59 with
      | true => X2t 1 ((d - 56) * 64 + 56) 1 s
      | false => X2t ([2, 4, 6, 12].getD (d - 60) 0) 0 1 s
def rZ (s : List Nat) : Zr Int := (rN s).bind fun (n, s) => some (match n % 2 with | 0 => Int.ofNat (n / 2) | _ => Int.negSucc (n / 2), s)
def rB (s : List Nat) : Zr Bool := (rN s).bind fun (n, s) => some (n.beq 1, s)
def rIK (s : List Nat) : Zr IntKind := (rN s).bind fun (n, s) => some (([.i8, .i16, .i32, .i64, .u8, .u16, .u32, .u64] : List IntKind).getD n .i64, s)
def rBO (s : List Nat) : Zr BinOp := (rN s).bind fun (n, s) => some (([.add, .sub, .mul, .quo, .rem, .and, .or, .xor, .andNot, .shl, .shr, .eql, .neq, .lss, .leq, .gtr, .geq] : List BinOp).getD n .add, s)
def rL' {α : Type} (p : List Nat → Zr α) : Nat → List Nat → Zr (List α)
  | 0, s => some ([], s)
  | n + 1, s => (p s).bind fun (x, s) => (rL' p n s).bind fun (l, s) => some (x :: l, s)
def rL {α : Type} (p : List Nat → Zr α) (s : List Nat) : Zr (List α) := (rN s).bind fun (n, s) => rL' p n s
def rO {α : Type} (p : List Nat → Zr α) (s : List Nat) : Zr (Option α) := (rN s).bind fun (n, s) => match n with | 0 => some (none, s) | _ => (p s).bind fun (x, s) => some (some x, s)
def rP {α β : Type} (p : List Nat → Zr α) (q : List Nat → Zr β) (s : List Nat) : Zr (α × β) := (p s).bind fun (x, s) => (q s).bind fun (y, s) => some ((x, y), s)
def rb : List Nat → Zr UInt8
  | [] => none
  | d :: s => match d.ble 47 with
    | true => some (UInt8.ofNat (d + 96), s)
    | false => match s with
      | [] => none
      | e :: s => some (UInt8.ofNat ((d - 48) * 64 + e), s)
def rY : List Nat → Zr (List UInt8) := rL rb
mutual
def rD : Nat → List Nat → Zr D
  | 0, _ => none
  | f + 1, s => (rN s).bind fun (n, s) => match n with
    | 0 => (rIK s).bind fun (a, s) => (rZ s).bind fun (b, s) => some (.int a b, s)
    | 1 => (rB s).bind fun (a, s) => some (.bool a, s)
    | 2 => (rY s).bind fun (a, s) => some (.str a, s)
    | 3 => some (.nils, s)
    | 4 => (rN s).bind fun (a, s) => (rLD f s).bind fun (b, s) => some (.list a b, s)
    | 5 => (rLD f s).bind fun (a, s) => some (.agg a, s)
    | 6 => some (.nili, s)
    | 7 => some (.nilp, s)
    | 8 => some (.nilf, s)
    | 9 => some (.nilm, s)
    | 10 => (rD f s).bind fun (a, s) => some (.ref a, s)
    | 11 => (rN s).bind fun (a, s) => (rD f s).bind fun (b, s) => some (.iface a b, s)
    | 12 => (rN s).bind fun (a, s) => (rLD f s).bind fun (b, s) => (rLD f s).bind fun (c, s) => some (.fn a b c, s)
    | _ => none
def rLD : Nat → List Nat → Zr (List D)
  | 0, _ => none
  | f + 1, s => (rN s).bind fun (m, s) => match m with | 0 => (rN s).bind fun (n, s) => rMD f n s | _ => (rN s).bind fun (n, s) => (rD f s).bind fun (x, s) => some (List.replicate n x, s)
def rMD : Nat → Nat → List Nat → Zr (List D)
  | 0, _, _ => none
  | _ + 1, 0, s => some ([], s)
  | f + 1, n + 1, s => (rD f s).bind fun (x, s) => (rMD f n s).bind fun (l, s) => some (x :: l, s)
end
mutual
def rK : Nat → List Nat → Zr KT
  | 0, _ => none
  | f + 1, s => (rN s).bind fun (n, s) => match n with
    | 0 => (rIK s).bind fun (a, s) => some (.int a, s)
    | 1 => some (.bool, s)
    | 2 => some (.str, s)
    | 3 => (rLK f s).bind fun (a, s) => some (.st a, s)
    | 4 => (rN s).bind fun (a, s) => (rK f s).bind fun (b, s) => some (.ar a b, s)
    | _ => none
def rLK : Nat → List Nat → Zr (List KT)
  | 0, _ => none
  | f + 1, s => (rN s).bind fun (n, s) => rMK f n s
def rMK : Nat → Nat → List Nat → Zr (List KT)
  | 0, _, _ => none
  | _ + 1, 0, s => some ([], s)
  | f + 1, n + 1, s => (rK f s).bind fun (x, s) => (rMK f n s).bind fun (l, s) => some (x :: l, s)
end
def rA : List Nat → Zr A
  | [] => none
  | d :: s => match d.ble 43 with
    | true => some (.t d, s)
    | false => match d - 44 with
    | 0 => (rN s).bind fun (a, s) => some (.t a, s)
    | 1 => (rIK s).bind fun (a, s) => (rZ s).bind fun (b, s) => some (.int a b, s)
    | 2 => (rB s).bind fun (a, s) => some (.bool a, s)
    | 3 => (rY s).bind fun (a, s) => some (.str a, s)
    | 4 => some (.nils, s)
    | 5 => some (.nili, s)
    | 6 => some (.nilp, s)
    | 7 => some (.nilf, s)
    | 8 => some (.nilm, s)
    | 9 => (rN s).bind fun (a, s) => some (.nl a, s)
    | 10 => (rN s).bind fun (a, s) => some (.fn a, s)
    | _ => none
def rC (s : List Nat) : Zr C := (rN s).bind fun (n, s) => match n with
    | 12 => (rA s).bind fun (a, s) => some (.neg a, s)
    | 13 => (rB s).bind fun (a, s) => (rA s).bind fun (b, s) => (rA s).bind fun (c, s) => some (.beq a b c, s)
    | 14 => (rB s).bind fun (a, s) => (rA s).bind fun (b, s) => some (.isnil a b, s)
    | 15 => (rB s).bind fun (a, s) => (rA s).bind fun (b, s) => some (.pnil a b, s)
    | 16 => (rB s).bind fun (a, s) => (rA s).bind fun (b, s) => some (.fnil a b, s)
    | 17 => (rB s).bind fun (a, s) => (rA s).bind fun (b, s) => (rA s).bind fun (c, s) => some (.peq a b c, s)
    | 18 => (rA s).bind fun (a, s) => some (.usd a, s)
    | 19 => (rIK s).bind fun (a, s) => (rA s).bind fun (b, s) => some (.cvi a b, s)
    | 20 => (rA s).bind fun (a, s) => some (.cvs a, s)
    | 21 => (rA s).bind fun (a, s) => (rA s).bind fun (b, s) => some (.idx a b, s)
    | 22 => (rN s).bind fun (a, s) => (rN s).bind fun (b, s) => (rA s).bind fun (c, s) => (rA s).bind fun (d, s) => some (.idxP a b c d, s)
    | 23 => (rN s).bind fun (a, s) => (rN s).bind fun (b, s) => (rN s).bind fun (c, s) => (rB s).bind fun (d, s) => (rA s).bind fun (e, s) => some (.fld a b c d e, s)
    | 24 => (rA s).bind fun (a, s) => some (.lenS a, s)
    | 25 => (rN s).bind fun (a, s) => some (.lenA a, s)
    | 26 => (rA s).bind fun (a, s) => (rO (rA) s).bind fun (b, s) => (rO (rA) s).bind fun (c, s) => some (.slcS a b c, s)
    | 27 => (rN s).bind fun (a, s) => (rA s).bind fun (b, s) => (rO (rA) s).bind fun (c, s) => (rO (rA) s).bind fun (d, s) => some (.slcL a b c d, s)
    | 28 => (rN s).bind fun (a, s) => (rL (rA) s).bind fun (b, s) => (rL (rA) s).bind fun (c, s) => some (.mkf a b c, s)
    | 29 => (rN s).bind fun (a, s) => (rD 90 s).bind fun (b, s) => (rA s).bind fun (c, s) => some (.tas a b c, s)
    | 30 => (rK 90 s).bind fun (a, s) => (rB s).bind fun (b, s) => (rA s).bind fun (c, s) => (rA s).bind fun (d, s) => some (.eqD a b c d, s)
    | 31 => (rN s).bind fun (a, s) => (rN s).bind fun (b, s) => (rB s).bind fun (c, s) => (rA s).bind fun (d, s) => (rA s).bind fun (e, s) => some (.aix a b c d e, s)
    | _ => none
def rI (s : List Nat) : Zr I := (rN s).bind fun (n, s) => match n with
    | 10 => (rN s).bind fun (a, s) => (rN s).bind fun (b, s) => (rA s).bind fun (c, s) => (rA s).bind fun (d, s) => some (.appS a b c d, s)
    | 11 => (rA s).bind fun (a, s) => some (.b2s a, s)
    | 12 => (rA s).bind fun (a, s) => some (.s2b a, s)
    | 13 => (rN s).bind fun (a, s) => (rN s).bind fun (b, s) => (rA s).bind fun (c, s) => some (.nilo a b c, s)
    | 14 => (rA s).bind fun (a, s) => some (.mvf a, s)
    | 15 => (rN s).bind fun (a, s) => (rB s).bind fun (b, s) => (rA s).bind fun (c, s) => some (.ldf a b c, s)
    | 16 => (rN s).bind fun (a, s) => (rN s).bind fun (b, s) => (rA s).bind fun (c, s) => (rA s).bind fun (d, s) => (rL (rN) s).bind fun (e, s) => some (.mvg a b c d e, s)
    | 17 => (rA s).bind fun (a, s) => (rA s).bind fun (b, s) => (rL (rP (rN) (rP (rN) (rL (rN)))) s).bind fun (c, s) => some (.mvn a b c, s)
    | 18 => (rA s).bind fun (a, s) => some (.cvb a, s)
    | 19 => (rN s).bind fun (a, s) => (rA s).bind fun (b, s) => (rA s).bind fun (c, s) => some (.ustr a b c, s)
    | 20 => (rO (rA) s).bind fun (a, s) => some (.mkm a, s)
    | 21 => (rD 90 s).bind fun (a, s) => (rD 90 s).bind fun (b, s) => (rB s).bind fun (c, s) => (rA s).bind fun (d, s) => (rA s).bind fun (e, s) => some (.lkp a b c d e, s)
    | 22 => (rD 90 s).bind fun (a, s) => (rA s).bind fun (b, s) => (rA s).bind fun (c, s) => (rA s).bind fun (d, s) => some (.mset a b c d, s)
    | 23 => (rN s).bind fun (a, s) => (rN s).bind fun (b, s) => (rB s).bind fun (c, s) => (rD 90 s).bind fun (d, s) => some (.gld a b c d, s)
    | 24 => (rN s).bind fun (a, s) => (rN s).bind fun (b, s) => (rA s).bind fun (c, s) => some (.slg a b c, s)
    | _ => none
def rIc (c : Nat) (s : List Nat) : Zr I := match c with
    | 0 => (rA s).bind fun (a, s) => some (.c (.mv a), s)
    | 1 => (rN s).bind fun (a, s) => (rB s).bind fun (b, s) => (rA s).bind fun (c, s) => some (.c (.ld a b c), s)
    | 2 => (rN s).bind fun (a, s) => (rN s).bind fun (b, s) => (rA s).bind fun (c, s) => some (.c (.fldA a b c), s)
    | 3 => (rBO s).bind fun (a, s) => (rA s).bind fun (b, s) => (rA s).bind fun (c, s) => some (.c (.bin a b c), s)
    | 4 => (rA s).bind fun (a, s) => some (.c (.lenL a), s)
    | 5 => (rA s).bind fun (a, s) => some (.c (.nilc a), s)
    | 6 => (rN s).bind fun (a, s) => (rA s).bind fun (b, s) => (rA s).bind fun (c, s) => some (.c (.idxA a b c), s)
    | 7 => (rA s).bind fun (a, s) => (rN s).bind fun (b, s) => some (.c (.ext a b), s)
    | 8 => (rA s).bind fun (a, s) => (rA s).bind fun (b, s) => (rA s).bind fun (c, s) => some (.c (.pick a b c), s)
    | 9 => (rA s).bind fun (a, s) => some (.c (.not a), s)
    | 10 => (rLD 90 s).bind fun (a, s) => (rL (rP (rN) (rA)) s).bind fun (b, s) => some (.c (.bld a b), s)
    | 11 => (rN s).bind fun (a, s) => (rA s).bind fun (b, s) => some (.c (.mki a b), s)
    | 12 => (rA s).bind fun (a, s) => (rL (rA) s).bind fun (b, s) => some (.callv a b, s)
    | 13 => (rN s).bind fun (a, s) => (rL (rA) s).bind fun (b, s) => some (.call a b, s)
    | 14 => (rN s).bind fun (a, s) => (rL (rA) s).bind fun (b, s) => some (.pcall a b, s)
    | 15 => (rN s).bind fun (a, s) => (rN s).bind fun (b, s) => (rN s).bind fun (c, s) => (rA s).bind fun (d, s) => (rA s).bind fun (e, s) => some (.app a b c d e, s)
    | 16 => (rN s).bind fun (a, s) => (rD 90 s).bind fun (b, s) => some (.alloc a b, s)
    | 17 => (rN s).bind fun (a, s) => (rA s).bind fun (b, s) => some (.box a b, s)
    | 18 => (rN s).bind fun (a, s) => (rLD 90 s).bind fun (b, s) => (rL (rP (rN) (rA)) s).bind fun (c, s) => some (.bls a b c, s)
    | 19 => (rN s).bind fun (a, s) => (rN s).bind fun (b, s) => (rLD 90 s).bind fun (c, s) => (rL (rP (rN) (rA)) s).bind fun (d, s) => some (.blo a b c d, s)
    | 20 => (rN s).bind fun (a, s) => (rA s).bind fun (b, s) => (rA s).bind fun (c, s) => some (.st a b c, s)
    | 21 => (rA s).bind fun (a, s) => some (.panic a, s)
    | 28 => (rC s).bind fun (c, s) => some (.c c, s)
    | 29 => rI s
    | _ => none
def zop (g : Option (Nat × Bool)) (d : Option Nat) (l : Nat) (c : Nat) (s : List Nat) : Zr (Nat × It) := (rIc c s).bind fun (i, s) => some ((d.getD l, match g with | none => .op d i | some (a, b) => .gop a b d i), s)
def X8c (g : Option (Nat × Bool)) (l : Nat) : List Nat → Zr (Nat × It)
  | [] => none
  | c :: s => match c.ble 29 with
    | true => zop g (match c with | 20 => none | 21 => none | _ => some (l + 1)) l c s
    | false => (rN s).bind fun (n, s) => zop g (match n with | 0 => none | n + 1 => some n) l (c - 30) s
def rIt (l : Nat) : List Nat → Zr (Nat × It)
  | [] => none
  | c :: s => match c with
    | 61 => (rN s).bind fun (a, s) => (rB s).bind fun (b, s) => X8c (some (a, b)) l s
    | _ => X8c none l (c :: s)
def X73 : Nat → Nat → List Nat → Zr (Nat × List It)
  | 0, l, s => some ((l, []), s)
  | n + 1, l, s => (rIt l s).bind fun ((l, x), s) => (X73 n l s).bind fun ((l, r), s) => some ((l, x :: r), s)
mutual
def rOt : Nat → Nat → List Nat → Zr (Nat × Ot)
  | 0, _, _ => none
  | f + 1, l, s => (rN s).bind fun (n, s) => match n with
    | 0 => some ((l, .done), s)
    | 1 => (rN s).bind fun (i, s) => (rIt l s).bind fun ((l, x), s) => (rOt f l s).bind fun ((l, r), s) => some ((l, .one i x r), s)
    | 2 => (rN s).bind fun (n, s) => (X4v f n l s).bind fun (t, s) => some ((l, .br t), s)
    | _ => none
def X4v : Nat → Nat → Nat → List Nat → Zr Ots
  | 0, _, _, _ => none
  | _ + 1, 0, _, s => some (.nil, s)
  | f + 1, n + 1, l, s => (rN s).bind fun (i, s) => (rIt l s).bind fun ((l', x), s) => (rOt f l' s).bind fun ((_, r), s) => (X4v f n l s).bind fun (t, s) => some (.cons i x r t, s)
end
structure Alg (τ : Type) where
  rg : List Nat → List It → List Nat → List Nat → τ
  rgT : Nat → Ot → List Nat → List Nat → τ
  seq : τ → τ → τ
  skip : τ
  cond : A → τ → τ → τ
  block : Nat → τ → τ
  loop : List Nat → τ → τ
  exit : Nat → τ
  ret : τ
def X9x : Alg S := ⟨.rg, .rgT, .seq, .skip, .cond, .block, .loop, .exit, .ret⟩
def Ya2 (fs : List Nat) : Alg S2 := ⟨fun _ l keep pk => match Ue fs keep pk l [] [] [] with
    | some (l, kp) => .rg l kp pk
    | none => .skip, fun _ t keep pk => .rgT t keep pk, .seq, .skip, .cond, .block, .loop, .exit, .ret⟩
def rS {τ : Type} (a : Alg τ) (ns : List τ) : Nat → Nat → List Nat → Zr (Nat × τ)
  | 0, _, _ => none
  | f + 1, l, s => (rN s).bind fun (n, s) => match n with
    | 0 => (rL rN s).bind fun (o, s) => (rN s).bind fun (n, s) => (X73 n l s).bind fun ((l, i), s) => (rL rN s).bind fun (c, s) => (rL rN s).bind fun (b, s) => some ((l, a.rg o i c b), s)
    | 1 => (rN s).bind fun (n, s) => (rOt 1000 l s).bind fun ((l, t), s) => (rL rN s).bind fun (c, s) => (rL rN s).bind fun (b, s) => some ((l, a.rgT n t c b), s)
    | 2 => (rS a ns f l s).bind fun ((l, x), s) => (rS a ns f l s).bind fun ((l, y), s) => some ((l, a.seq x y), s)
    | 3 => some ((l, a.skip), s)
    | 4 => (rA s).bind fun (c, s) => (rS a ns f l s).bind fun ((l, x), s) => (rS a ns f l s).bind fun ((l, y), s) => some ((l, a.cond c x y), s)
    | 5 => (rN s).bind fun (n, s) => (rS a ns f l s).bind fun ((l, x), s) => some ((l, a.block n x), s)
    | 6 => (rL rN s).bind fun (n, s) => (rS a ns f l s).bind fun ((l, x), s) => some ((l, a.loop n x), s)
    | 7 => (rN s).bind fun (n, s) => some ((l, a.exit n), s)
    | 8 => some ((l, a.ret), s)
    | 10 => (rN s).bind fun (n, s) => some ((l, ns.getD n a.skip), s)
    | _ => none
def zA {τ : Type} (a : Alg τ) (ns : List τ) (n : Nat) : τ := match rS a ns 1000 0 (X5s 20000 n) with
  | some ((_, x), _) => x
  | none => a.skip
def zS : List S → Nat → S := zA X9x
def zL (fs : List Nat) : List S2 → Nat → S2 := zA (Ya2 fs)
end Go.Ab
/- The abstract statements that stand for the code of these functions, written by a program from the translation; that they do is checked by the kernel. No condition. -/
namespace Go.Proofs.YtmapdjjigmkbfaaGreatDoor
open Go Go.Ab
set_option maxRecDepth 100000
def n20 : Nat := 0x12001818c7780ba27888607c30783817bd28118105ef480460417bd1c118105ef5d000b9c6c82c005bf5a0096de2c000200b2892071590182865030030000800c00030000c0180159e4bb815070146655d579654203838504404704659f2400020092071444c04881940c00c00020030000c000300600567926e04e1c03939513de40f080e0e1011011c11907c90000801c51033471940c30c30c31801410057b922e3000430c30c30c600504028304635f1000020051030c0b8008fe1104fe1101d12f100002
def X2l : S := zS [] n20
theorem X4q : Xt Tryz.prog 20 3 X2l [.t 6] = true := by kernel_rfl
def n40 : Nat := 0x480051022c02857812470091c8978d870e4e0d04018004108514220000200204202e0000ed15e01d0ef0c0002
def X3p : S := zS [] n40
theorem X5l : Xt Tryz.prog 40 2 X3p [.t 4, .t 5] = true := by kernel_rfl
def n56 : Nat := 0x1200144081b867a9106504046a9f0c00020c800510202e19ea041941011810c00029c4027102981b97200ba56c8017f642416fd8dc0b3e0e05bf620450416fd85f14605bf6000189f05bf5e00181f05bf4204675f05bf4410486005bf5d0410816fd08001e8016fd680017f400ed6500c05fd600041017f441040805fd580541b9121424047d4d20b2e0e011f4404604047d081181011f5000f24541e6585d65544d240d44f38c2ca2481c61440c20406400820051020ce19e3441940461c018e94c1de2c91c3c7838a0010430c308800104308208204621f2c00020040c20c0b800c00c00020030000c00030060056794013f84407b90ef100002
def X18 : S := zS [] n56
theorem X4x : Xt Tryz.prog 56 2 X18 [.c 4 6 true, .t 5] = true := by kernel_rfl
def n57 : Nat := 0x1200181078b07780e2cc2c2c3dec001076b030c2d6ccec146d2c001d9fcac001d1fbec00106eb030c2b6cac51acb0006e7ea001b1f144135831b010420c0032804104b60a410420c002a8124503ce34c2871851022c9203040480083200181a077a794b0e60010451040a40010441049601800025840161440c48d77a206e7c8043b612c301ff600010407fd14410201ff5e01d06e688043b5c2c301af5b0010406bd10410201af590020ed60c0d7001044000620380002200181547794482d383930010451450910010441454a018000234400d1440c440e7880ed3cb0ce0010440003e010000220018102e1de0400021c40071440c430878b24c0ca0010450000880010440002601800020050801440c302e0026794416794407b912f100002
def X1z : S := zS [] n57
theorem X5w : Xt Tryz.prog 57 3 X1z [.t 6] = true := by kernel_rfl
def n71 : Nat := 0x480051022c02857812470091c8eb8d870f9e0d04018004108208220000200204202e0000ed15e01d0ef0c0002
def X13 : S := zS [] n71
theorem X6a : Xt Tryz.prog 71 2 X13 [.t 4, .t 5] = true := by kernel_rfl
def Xsb : Nat := 0x12001c6081b8034778639e0c00020c800718202e0000ed1de08000230400c182003b4b34318c782000082
def n92 : Nat := 0x100a00604a1de248085e4d1440801b971c0001000020051000c0b80003b400894410fa16f100002
def X27 : S := zS [(zS [] Xsb)] n92
theorem X5y : Xt Tryz.prog 92 3 X27 [.t 6, .t 7] = true := by kernel_rfl
def Xq6 : Nat := 0x10092070444ca7820ed2405210800032001014857850020000911004492071411903cb0c100e0010460003e01000020092071850463461142c67800400c0002002100147e07b8c0440491c41890060000811420070ca10200a2481c114824d2e1040002
def n94 : Nat := 0x1200101043b457810000802892070441801402481c11000ed00710021e0c00020800400800ed15e040002
def X1p : S := zS [(zS [] Xq6)] n94
theorem X66 : Xt Tryz.prog 94 2 X1p [.t 4] = true := by kernel_rfl
def X8p : Nat := 0x4800718206e21eb6c18652cb01181ac1042aa92c6080a000419c41029a51860409000418c20820c002480d0000832001c6080b887a21865060460430000a11008460c2045801b9621f5d00c05bd784016f5d0010405bd704102016f5b6861805bd040016f590010405bd602082016f430000805bd080016f5501406e488003b53343012f420004bd440401b8a20f2d00c02bd38400af4d0010402bd30208200af430000802bd04000af490000ed20d0c101a0000820060c204402e0030030000800c00030000c0180159e47b807b912f0c0002
def Xsz : S := zS [] X8p
theorem Xz7 : Xt Tryz.prog 105 3 Xsz [.c 6 6 true, .t 7] = true := by kernel_rfl
def X6d : Nat := 0x4800405615e5510905ea3cd00115f47a00de4eb1411300155f0c11927ce00141f4810420800138030003e02ca2430081c40861412c008320010102e15e04000230400c0c20cb06e208203b4a3c3008f4900104023d0c0002008f470020ed18d0c500104300008800008200308202e0016794407b90ef0c0002
def Xus : S := zS [] X6d
theorem Xxx : Xt Tryz.prog 106 2 Xus [.t 4] = true := by kernel_rfl
def X8u : Nat := 0x4800406515e02e91b2020ed8cb0c16fd88004105bf611040816fd81e14605bf5f0010416fd0c30c205bf5d0010416fd70104205bf420000816fd68002e65221850d0c14bd5c4052f560010414bd541042052f420000814bd4c0041052f430c30814bd44002e40d2000ed3d00c137d38004104df430c308137d30002e2c820000000080000000003f0ed28e0c123d240041048f4310408123d1c0083b464031400410c410288000200308202e00137a4407b90ef0c0002
def Xte : S := zS [] X8u
theorem Xyg : Xt Tryz.prog 107 2 Xte [.t 4] = true := by kernel_rfl
def Xkd : Nat := 0x4034c04011939e083b4d01a8420000c8004040b8578100009810060d3010055d33035800587d200151f55404614005579140118500045e2481c318510204024008034c1410053c678d0020000811420070ce10200e34c04014c34d3e1040002
def X37 : Nat := 0x120010106e15e04000200a34c04010600500d301004003b402c400c7830000820c8004040b8578100008a10028100324730320404018400778500008200100202e15e040002
def Xs8 : S := zS [(zS [] Xkd)] X37
theorem Xzw : Xt Tryz.prog 108 2 Xs8 [.t 4] = true := by kernel_rfl
def Xk2 : Nat := 0x12001c6081b8034778639e0c00020c800718202e0000ed1de08000230400c182003b4b34318c782000082
def X34 : Nat := 0x100a00604a1de24808fe4d14408043971c0001000020051000c0b80003b4008944163a16f100002
def Xtx : S := zS [(zS [] Xk2)] X34
theorem Xzp : Xt Tryz.prog 113 3 Xtx [.t 6, .t 7] = true := by kernel_rfl
def Xng : Nat := 0x4320010144578549e080002404
def Xkk : Nat := 0x4020704011225e083b48013842000
def Xfj : Nat := 0x104a00a0102071410063c12cc3810c134c0c614000004c7860000802071410052867880020000811420070c910200920704014720d2a1040002
def X2j : Nat := 0x1200101043b457810000802881c10041801402070401000ed0061001de0c00020800400800ed15e040002
def Xu6 : S := zS [(zS [(zS [] Xng), (zS [] Xkk)] Xfj)] X2j
theorem Xxy : Xt Tryz.prog 125 2 Xu6 [.t 4] = true := by kernel_rfl
def X60 : Nat := 0x120010100915e1412072ca84404604522a0810800497c300915e1412072c31010800410c10860453020820c10c10410400410011810800c204302e000ef812f080002
def Xwa : S := zS [] X60
theorem Xx9 : Xt Tryz.prog 126 3 Xwa [.t 4] = true := by kernel_rfl
def X5p : Nat := 0x4800510206e19e538b041144f8b034b8b020800c000300008008400a1c0478b00041438b020823f8b0ee2c106180378b00041338b060422f8b0500ce1e3000020c800510202e19e2b8b041141011010c0002278b04009e07184005238b01b84e2c207e2c178b0c0c0138f46e2c001040138f430c3080138f47000138f43e2c002e2c2450f8788000082007185103006078b06780e2c21e0681c0a01e25deca5edacd2cb2c0d1e4ed6c001ddfcec001072b02082c6cc2c13392fb000717eb046b5f0c1076806c9ebac1810adb0502e7aa0000a9140a9e51349140f38d2ca2470cc2061440810140020c800510202e19e9c41141011010c00029840261840c016506e848922303021f6300104087d0c2082021f4600087d800003b5f3431a078800008200610300478779d6c29b839c00179f68005c7c30007606460426050197881c6143102040200083200144080b867971045040440430000961005840c011506e488003b54303012f530010404bd0c4102012f5101006e3083c900cf4e06738033d34004100cf4304108033d2c02892419ce2000410c000980f0000820040c00c0b800030000c000200210014fe1006612f0c0002
def Xwe : S := zS [] X5p
theorem Xx2 : Xt Tryz.prog 127 2 Xwe [.c 4 4 true, .t 5] = true := by kernel_rfl
def X8d : Nat := 0x1200081783780b9d688200000f43b5c38305af5b0010416bd04410205af59000b98548003b57403055f5600104157d044102055f54000b93408003b522c3050f5100104143d0430c2050f4f000b8e2c8043b4d2c304bf4c0010412fd04208204bf4a000b8918802f20b0c11bd1c0041046f410410811bd14002f10b0c300104100009d00008004102e000991080002
def Xt4 : S := zS [] X8d
theorem X0p : Xt Tryz.prog 128 1 Xt4 [.t 2] = true := by kernel_rfl
def Xmm : Nat := 0x4320010144578549e080002404
def Xme : Nat := 0x4020704011225e083b48013842000
def Xfg : Nat := 0x104a00a0102071410063c12cc38118134c18614000004c7860000802071410052867880020000811420070c910200920704014720d2a1040002
def X1w : Nat := 0x1200101043b457810000802881c10041801402070401000ed0061001de0c00020800400800ed15e040002
def Xuu : S := zS [(zS [(zS [] Xmm), (zS [] Xme)] Xfg)] X1w
theorem X0i : Xt Tryz.prog 135 2 Xuu [.t 4] = true := by kernel_rfl
def X6j : Nat := 0x120010100915e1412072ca84404604522a0810800497c300915e1412072c31010800410c10860453020820c11810410400410011810800c204302e0002f812f080002
def Xs0 : S := zS [] X6j
theorem X0d : Xt Tryz.prog 136 3 Xs0 [.t 4] = true := by kernel_rfl
def X6k : Nat := 0x12001c609a0191de0581c06075e1e765838393420150010541040934861810110010430824a03000020c800718202e0000ed1de0800024040100c20443c1b8a20e2d00c02bd34400af4c0010402bd0c208200af410002bd240003b483430402400020800c204302e0000ed1de01d12f0c0002
def Xv8 : S := zS [] X6k
theorem Xzl : Xt Tryz.prog 137 3 Xv8 [.t 6, .t 7] = true := by kernel_rfl
def X7t : Nat := 0x1200101905780ba37c8003b622c305ff611017fd80004105ff421450817fd78002e75921c6cd0c167d040059f5a00104167d084102059f58000b97508043b56403054f5500104153d084102054f53000b923c8200000f43b5138304ff500010413fd08208204ff4e000b8d20830a383048f4b00104123d082082048f4900104123d081042048f470000ed1900c50010420410a1000080081080b857806790ef080002
def Xvy : S := zS [] X7t
theorem Xyy : Xt Tryz.prog 147 2 Xvy [.t 4] = true := by kernel_rfl
def X4w : Nat := 0x12001015c5780b96488003b552c3052f541014bd4c0041052f421450814bd44002e40d2010ed3cb0c137d38004104df4210408137d30002e2c821ffbc0ed28b0c123d240041048f4208208123d1c0003b462c3140041081042500002002040b857806790ef080002
def Xuo : S := zS [] X4w
theorem Xxv : Xt Tryz.prog 148 2 Xuo [.t 4] = true := by kernel_rfl
def X7x : Nat := 0x12001015c5780b96488003b552c3052f541014bd4c0041052f421450814bd44002e40d2010ed3cb0c137d38004104df4210408137d30002e2c820007ffbd0ed28b0c123d240041048f4208208123d1c0003b462c3140041081042500002002040b857806790ef080002
def Xv9 : S := zS [] X7x
theorem X0u : Xt Tryz.prog 149 2 Xv9 [.t 4] = true := by kernel_rfl
def X5b : Nat := 0x1200101985780ba58889017f93818bd8c0041062f421450818bd84002e81c2200ed7ce0c173d78405cf5d00104173d08514205cf5b000b9a588083b59403056f581015bd5c0041056f421450815bd54002e5112010ed4cb0c147d480041051f4210408147d40002e3c820e28b0c123d083b4d043048f4c10123d2c0041048f4214508123d240041048f4208208123d1c0003b462c31400410810428c0002002040b857806790ef080002
def Xs3 : S := zS [] X5b
theorem Xxr : Xt Tryz.prog 150 2 Xs3 [.t 4] = true := by kernel_rfl
def Xkp : Nat := 0x100b2890c450c7820ed2c00c200000b2890c406e4d2002580ec50034de0c000320008102e0de0400024440112ca2450c640f00004009574500341e0c00020802ca2450c538678d00104b2411830000811420070cc10200c2ca24314a2cd361040002
def X22 : Nat := 0x48002041b8378100008028b2890c41801402ca2431000ed00910029e0c00020800c008811e1c151d18400778400008000102e0de040002
def Xtn : S := zS [(zS [] Xkp)] X22
theorem Xzo : Xt Tryz.prog 151 1 Xtn [.t 2] = true := by kernel_rfl
def Xk3 : Nat := 0x12001c6081b8034778639e0c00020c800718202e0000ed1de08000230400c182003b4b34318c782000082
def X3i : Nat := 0x100a00604a1de2480aee4d144080bf971c0001000020051000c0b80003b400894411bb16f100002
def Xt7 : S := zS [(zS [] Xk3)] X3i
theorem Xz6 : Xt Tryz.prog 152 3 Xt7 [.t 6, .t 7] = true := by kernel_rfl
def Xkt : Nat := 0x4320010144578549e080002404
def Xl8 : Nat := 0x4020704011225e083b48013842000
def Xf0 : Nat := 0x104a00a0102071410063c12cc3812c134c2c614000004c7860000802071410052867880020000811420070c910200920704014720d2a1040002
def X39 : Nat := 0x1200101043b457810000802881c10041801402070401000ed0061001de0c00020800400800ed15e040002
def Xv7 : S := zS [(zS [(zS [] Xkt), (zS [] Xl8)] Xf0)] X39
theorem Xxs : Xt Tryz.prog 166 2 Xv7 [.t 4] = true := by kernel_rfl
def X6g : Nat := 0x120010100915e1412072ca84404604522a0810800497c300915e1412072c31010800410c10860453020820c12c10410400410011810800c204302e00073912f080002
def Xub : S := zS [] X6g
theorem Xyh : Xt Tryz.prog 167 3 Xub [.t 4] = true := by kernel_rfl
def n93 : Nat := 0x480020440de0c00410400020c0002001040bc003be11080002
def X1t : S := zS [] n93
theorem X64 : Xt Tryz.prog 93 1 X1t [.t 2] = true := by kernel_rfl
def X8w : Nat := 0x480020440de0c00410400020c0002001040bc000be11080002
def Xt8 : S := zS [] X8w
theorem Xyx : Xt Tryz.prog 114 1 Xt8 [.t 2] = true := by kernel_rfl
def X69 : Nat := 0x480020440de0c00410400020c0002001040bc001ce51080002
def Xt6 : S := zS [] X69
theorem Xxt : Xt Tryz.prog 153 1 Xt6 [.t 2] = true := by kernel_rfl
def X5g : Nat := 0x12000010401547b9d84779d83739d826f9d81108208208140282000080001205045c7a06e040002
def Xvi : S := zS [] X5g
theorem Xw6 : Xt Tryz.prog 133 0 Xvi [.c 0 5 true] = true := by kernel_rfl
end Go.Proofs.YtmapdjjigmkbfaaGreatDoor
/- The same statements with their regions folded into expressions, printed by the fold itself; that they are that is checked by the kernel. No condition. -/
namespace Go.Proofs.YtmapdjjigmkbfaaGreatDoor
open Go Go.Ab
set_option maxRecDepth 100000
def X6l : S2 := zL [] [] n20
def Yay := by
 have h := Eq.refl X6l
 conv at h => rhs; cbv
 exact h
theorem X96 : X2l.lift [] = some X6l := by kernel_rfl
def X5k : S2 := zL [] [] n40
def X98 := by
 have h := Eq.refl X5k
 conv at h => rhs; cbv
 exact h
theorem Yab : X3p.lift [] = some X5k := by kernel_rfl
def X43 : S2 := zL [] [] n56
def Ybi := by
 have h := Eq.refl X43
 conv at h => rhs; cbv
 exact h
theorem X90 : X18.lift [] = some X43 := by kernel_rfl
def X6w : S2 := zL [] [] n57
def Xwi := by
 have h := Eq.refl X6w
 conv at h => rhs; cbv
 exact h
theorem Yah : X1z.lift [] = some X6w := by kernel_rfl
def X8r : S2 := zL [] [] n71
def Ybs := by
 have h := Eq.refl X8r
 conv at h => rhs; cbv
 exact h
theorem Ybp : X13.lift [] = some X8r := by kernel_rfl
def Xg4 : S2 := zL [] [] Xsb
def Xti := by
 have h := Eq.refl Xg4
 conv at h => rhs; cbv
 exact h
def X8z : S2 := zL [] [Xg4] n92
def Ybu := by
 have h := fun (a : S2) => Eq.refl (zL [] [a] n92)
 conv at h => intro a; rhs; cbv
 have e : X8z = _ := h Xg4
 exact e
theorem Ybh : X27.lift [] = some X8z := by kernel_rfl
def Xfw : S2 := zL [] [] Xq6
def Xmp := by
 have h := Eq.refl Xfw
 conv at h => rhs; cbv
 exact h
def X5r : S2 := zL [] [Xfw] n94
def Ybf := by
 have h := fun (a : S2) => Eq.refl (zL [] [a] n94)
 conv at h => intro a; rhs; cbv
 have e : X5r = _ := h Xfw
 exact e
theorem Yap : X1p.lift [] = some X5r := by kernel_rfl
def Xyr : S2 := zL [] [] X8p
def Xln := by
 have h := Eq.refl Xyr
 conv at h => rhs; cbv
 exact h
theorem X11 : Xsz.lift [] = some Xyr := by kernel_rfl
def Xw5 : S2 := zL [] [] X6d
def Xjs := by
 have h := Eq.refl Xw5
 conv at h => rhs; cbv
 exact h
theorem X3w : Xus.lift [] = some Xw5 := by kernel_rfl
def Xxe : S2 := zL [] [] X8u
def Xju := by
 have h := Eq.refl Xxe
 conv at h => rhs; cbv
 exact h
theorem X2q : Xte.lift [] = some Xxe := by kernel_rfl
def Xb9 : S2 := zL [] [] Xkd
def Xhl := by
 have h := Eq.refl Xb9
 conv at h => rhs; cbv
 exact h
def Xyw : S2 := zL [] [Xb9] X37
def Xzt := by
 have h := fun (a : S2) => Eq.refl (zL [] [a] X37)
 conv at h => intro a; rhs; cbv
 have e : Xyw = _ := h Xb9
 exact e
theorem X1m : Xs8.lift [] = some Xyw := by kernel_rfl
def Xb2 : S2 := zL [] [] Xk2
def Xqb := by
 have h := Eq.refl Xb2
 conv at h => rhs; cbv
 exact h
def Xzy : S2 := zL [] [Xb2] X34
def X4k := by
 have h := fun (a : S2) => Eq.refl (zL [] [a] X34)
 conv at h => intro a; rhs; cbv
 have e : Xzy = _ := h Xb2
 exact e
theorem X1i : Xtx.lift [] = some Xzy := by kernel_rfl
def Xcf : S2 := zL [] [] Xng
def Xih := by
 have h := Eq.refl Xcf
 conv at h => rhs; cbv
 exact h
def Xci : S2 := zL [] [] Xkk
def Xqh := by
 have h := Eq.refl Xci
 conv at h => rhs; cbv
 exact h
def Xbq : S2 := zL [] [Xcf, Xci] Xfj
def Xhf := by
 have h := fun (a b : S2) => Eq.refl (zL [] [a, b] Xfj)
 conv at h => intro a b; rhs; cbv
 have e : Xbq = _ := h Xcf Xci
 exact e
def Xw4 : S2 := zL [] [Xbq] X2j
def X35 := by
 have h := fun (a : S2) => Eq.refl (zL [] [a] X2j)
 conv at h => intro a; rhs; cbv
 have e : Xw4 = _ := h Xbq
 exact e
theorem X4m : Xu6.lift [] = some Xw4 := by kernel_rfl
def Xx4 : S2 := zL [] [] X60
def X3v := by
 have h := Eq.refl Xx4
 conv at h => rhs; cbv
 exact h
theorem X3q : Xwa.lift [] = some Xx4 := by kernel_rfl
def X0y : S2 := zL [] [] X5p
def X1k := by
 have h := Eq.refl X0y
 conv at h => rhs; cbv
 exact h
theorem X3o : Xwe.lift [] = some X0y := by kernel_rfl
def Xz2 : S2 := zL [] [] X8d
def Xf2 := by
 have h := Eq.refl Xz2
 conv at h => rhs; cbv
 exact h
theorem X3j : Xt4.lift [] = some Xz2 := by kernel_rfl
def Xbm : S2 := zL [] [] Xmm
def Xh0 := by
 have h := Eq.refl Xbm
 conv at h => rhs; cbv
 exact h
def Xbj : S2 := zL [] [] Xme
def Xqd := by
 have h := Eq.refl Xbj
 conv at h => rhs; cbv
 exact h
def Xc0 : S2 := zL [] [Xbm, Xbj] Xfg
def Xhv := by
 have h := fun (a b : S2) => Eq.refl (zL [] [a, b] Xfg)
 conv at h => intro a b; rhs; cbv
 have e : Xc0 = _ := h Xbm Xbj
 exact e
def Xx8 : S2 := zL [] [Xc0] X1w
def X3b := by
 have h := fun (a : S2) => Eq.refl (zL [] [a] X1w)
 conv at h => intro a; rhs; cbv
 have e : Xx8 = _ := h Xc0
 exact e
theorem X15 : Xuu.lift [] = some Xx8 := by kernel_rfl
def Xy1 : S2 := zL [] [] X6j
def X3l := by
 have h := Eq.refl Xy1
 conv at h => rhs; cbv
 exact h
theorem X2e : Xs0.lift [] = some Xy1 := by kernel_rfl
def X0l : S2 := zL [] [] X6k
def X0c := by
 have h := Eq.refl X0l
 conv at h => rhs; cbv
 exact h
theorem X2c : Xv8.lift [] = some X0l := by kernel_rfl
def Xx1 : S2 := zL [] [] X7t
def X33 := by
 have h := Eq.refl Xx1
 conv at h => rhs; cbv
 exact h
theorem X1v : Xvy.lift [] = some Xx1 := by kernel_rfl
def Xy6 : S2 := zL [] [] X4w
def X4h := by
 have h := Eq.refl Xy6
 conv at h => rhs; cbv
 exact h
theorem X4o : Xuo.lift [] = some Xy6 := by kernel_rfl
def Xyc : S2 := zL [] [] X7x
def X1r := by
 have h := Eq.refl Xyc
 conv at h => rhs; cbv
 exact h
theorem X2h : Xv9.lift [] = some Xyc := by kernel_rfl
def Xx7 : S2 := zL [] [] X5b
def Xi4 := by
 have h := Eq.refl Xx7
 conv at h => rhs; cbv
 exact h
theorem X2v : Xs3.lift [] = some Xx7 := by kernel_rfl
def Xca : S2 := zL [] [] Xkp
def Xhi := by
 have h := Eq.refl Xca
 conv at h => rhs; cbv
 exact h
def Xxh : S2 := zL [] [Xca] X22
def X2r := by
 have h := fun (a : S2) => Eq.refl (zL [] [a] X22)
 conv at h => intro a; rhs; cbv
 have e : Xxh = _ := h Xca
 exact e
theorem X3s : Xtn.lift [] = some Xxh := by kernel_rfl
def Xcd : S2 := zL [] [] Xk3
def Xqf := by
 have h := Eq.refl Xcd
 conv at h => rhs; cbv
 exact h
def Xzz : S2 := zL [] [Xcd] X3i
def X2y := by
 have h := fun (a : S2) => Eq.refl (zL [] [a] X3i)
 conv at h => intro a; rhs; cbv
 have e : Xzz = _ := h Xcd
 exact e
theorem X12 : Xt7.lift [] = some Xzz := by kernel_rfl
def Xb0 : S2 := zL [] [] Xkt
def Xhh := by
 have h := Eq.refl Xb0
 conv at h => rhs; cbv
 exact h
def Xcs : S2 := zL [] [] Xl8
def Xp9 := by
 have h := Eq.refl Xcs
 conv at h => rhs; cbv
 exact h
def Xbu : S2 := zL [] [Xb0, Xcs] Xf0
def Xh9 := by
 have h := fun (a b : S2) => Eq.refl (zL [] [a, b] Xf0)
 conv at h => intro a b; rhs; cbv
 have e : Xbu = _ := h Xb0 Xcs
 exact e
def Xyu : S2 := zL [] [Xbu] X39
def X2z := by
 have h := fun (a : S2) => Eq.refl (zL [] [a] X39)
 conv at h => intro a; rhs; cbv
 have e : Xyu = _ := h Xbu
 exact e
theorem X10 : Xv7.lift [] = some Xyu := by kernel_rfl
def Xw9 : S2 := zL [] [] X6g
def X3e := by
 have h := Eq.refl Xw9
 conv at h => rhs; cbv
 exact h
theorem X3t : Xub.lift [] = some Xw9 := by kernel_rfl
def X5n : S2 := zL [] [] n93
def X9l := by
 have h := Eq.refl X5n
 conv at h => rhs; cbv
 exact h
theorem X9p : X1t.lift [] = some X5n := by kernel_rfl
def Xw7 : S2 := zL [] [] X8w
def X4n := by
 have h := Eq.refl Xw7
 conv at h => rhs; cbv
 exact h
theorem X1l : Xt8.lift [] = some Xw7 := by kernel_rfl
def Xwy : S2 := zL [] [] X69
def X1j := by
 have h := Eq.refl Xwy
 conv at h => rhs; cbv
 exact h
theorem X2k : Xt6.lift [] = some Xwy := by kernel_rfl
def Xxm : S2 := zL [] [] X5g
def X21 := by
 have h := Eq.refl Xxm
 conv at h => rhs; cbv
 exact h
theorem X1s : Xvi.lift [] = some Xxm := by kernel_rfl
end Go.Proofs.YtmapdjjigmkbfaaGreatDoor
/- Further equations of folded expressions; loops that count. Over any program; no condition. -/
namespace Go.Ab
open Go
def Xqg (n z : Nat) (ag : Bool) (u v : V) : Prop := Xgs n z ag (fun w => w = Xiw u v) u v
section
variable (T : Tab) (sl : Xb) (ob : Objs) (x y : E) (n z : Nat) (b : Bool) (ty : KT)
@[simp] theorem v_eqD : E.val T sl ob (.b (.eqD ty b (.t 0) (.t 1)) x y) = Xww b (x.val T sl ob) (y.val T sl ob) := by simp [E.val]
@[simp] theorem o_eqD : E.ok T sl ob (.b (.eqD ty b (.t 0) (.t 1)) x y) = (x.ok T sl ob ∧ y.ok T sl ob ∧ Xzn ty (x.val T sl ob) (y.val T sl ob)) := by simp [E.ok]
@[simp] theorem v_aix : E.val T sl ob (.b (.aix n z b (.t 0) (.t 1)) x y) = Xiw (x.val T sl ob) (y.val T sl ob) := by simp [E.val]
@[simp] theorem o_aix : E.ok T sl ob (.b (.aix n z b (.t 0) (.t 1)) x y) = (x.ok T sl ob ∧ y.ok T sl ob ∧ Xqg n z b (x.val T sl ob) (y.val T sl ob)) := by simp [E.ok, C.ok, C.val, Xqg]
@[simp] theorem idxVS_d (xs : List D) (k : IntKind) (i : Int) : Xqg n z b (.d (.agg xs)) (.d (.int k i)) = ((0 ≤ i ∧ i < n) ∧ xs.length = n ∧ ∀ x ∈ xs, x.sz = z ∧ x.isAgg = b) := by
 simp [Xqg, Xgs]
end
theorem ALoop.upto {keep : List Nat} {body : Zt → Xb → Objs → Prop} {Q : Zt} {sl : Xb} {ob : Objs} (n : Nat) (S : Nat → Xb) (O : Nat → Objs) (I : Nat → Prop) (h0 : I 0) (hs : Xc sl keep = S 0) (ho : ob = O 0)
  (step : ∀ k, k < n → I k → ∀ R : Zt, (∀ kp sl' ob', I (k + 1) → Xc sl' keep = S (k + 1) → Ys (young (fresh (O k)) kp) ob' = O (k + 1) → V1 (young (fresh (O k)) kp) (S (k + 1)) = true → noMenO (young (fresh (O k)) kp) (O (k + 1)) = true → R .normal sl' ob') →
   (∀ n sl' ob', Q (.exit n) sl' ob' → R (.exit n) sl' ob') → (∀ sl' ob', Q .ret sl' ob' → R .ret sl' ob') → (∀ v sl' ob', Q (.panic v) sl' ob' → R (.panic v) sl' ob') → body R (S k) (O k))
  (done : I n → ∀ R : Zt, (∀ n sl' ob', Q (.exit n) sl' ob' → R (.exit n) sl' ob') → (∀ sl' ob', Q .ret sl' ob' → R .ret sl' ob') → (∀ v sl' ob', Q (.panic v) sl' ob' → R (.panic v) sl' ob') → body R (S n) (O n)) : ALoop keep body Q sl ob := by
 refine ALoop.go (ι := Nat) S O (fun k => k ≤ n ∧ I k) (fun k => n - k) 0 ⟨Nat.zero_le _, h0⟩ hs ho fun k ⟨hk, hi⟩ R rn re rr rp => ?_
 rcases Nat.lt_or_ge k n with h | h
 ·exact step k h hi R (fun kp sl' ob' h1 h2 h3 h4 h5 => rn kp (k + 1) sl' ob' ⟨h, h1⟩ (by omega) h2 h3 h4 h5) re rr rp
 ·obtain rfl : k = n := Nat.le_antisymm hk h
  exact done hi R re rr rp
end Go.Ab
/- The abstract statements that stand for the code of these functions, written by a program from the translation; that they do is checked by the kernel. No condition. -/
namespace Go.Proofs.YtmapdjjigmkbfaaGreatDoor
open Go Go.Ab
set_option maxRecDepth 100000
def Xr0 : Nat := 0x440c20c61440c200602db0cb2c00106b18115672a001067a4123b5abea68957250019dfa020828698e40410a314500000500e34c2ca2461481c40c20403800450070e01040c20e01851030801df74d0de61c0007000416c104268515b787000082
def Xs9 : S := zS [] Xr0
def X7a : FSt := .pre (.rg [] [.op (some 2) (.alloc 55 (.nils)),
   .op (some 3) (.alloc 3 (.int .i64 0)),
   .op (some 4) (.alloc 45 (.int .i64 0))] [0, 2, 3, 4] [])
 (.pre (.seq (.rg [] [.op (some 7) (.c (.mv (.t 0))),
   .op (some 8) (.c (.lenS (.t 7))),
   .op (some 9) (.c (.bin .gtr (.t 8) (.int .i64 65536)))] [0, 2, 3, 4, 9] [])
 (.cond (.t 9) (.seq (.rg [] [.op none (.st 1 (.t 2) .nils),
   .op none (.st 1 (.t 3) (.int .i64 0)),
   .op none (.st 1 (.t 4) (.int .i64 2))] [2, 3, 4] [])
 (.ret)) (.skip)))
 (.dfr [.op (some 10) (.c (.mkf 43 [] [(.t 2), (.t 3), (.t 4)]))] [0, 2, 3, 4, 10] 10
 (.seq (.rg [] [.op (some 11) (.c (.mv (.t 0))),
   .op (some 12) (.pcall 44 []),
   .op (some 13) (.c (.bld [.str [], .int .i64 0, .agg (List.replicate 256 (.int .i64 0)), .nils] [(0, (.t 11)), (2, (.t 12))])),
   .op (some 14) (.box 130 (.t 13)),
   .op (some 5) (.mvg 59 4 (.t 14) (.t 14) [3])] [0, 2, 3, 4, 5] [2, 3, 4])
 (.seq (.rg [] [.op (some 15) (.c (.mv (.t 5))),
   .op (some 16) (.c (.mkf 45 [(.t 15)] [])),
   .op (some 17) (.c (.mv (.t 5))),
   .op (some 18) (.c (.mkf 46 [(.t 17)] [])),
   .op (some 19) (.c (.mv (.t 5))),
   .op (some 20) (.c (.mkf 47 [(.t 19)] [])),
   .op (some 21) (.c (.mv (.t 5))),
   .op (some 22) (.c (.mkf 48 [(.t 21)] [])),
   .op (some 23) (.c (.mv (.t 5))),
   .op (some 24) (.c (.mkf 49 [(.t 23)] [])),
   .op (some 25) (.c (.bld [.nilf, .nilf, .nilf, .nilf, .nilf] [(0, (.t 16)), (1, (.t 18)), (2, (.t 20)), (3, (.t 22)), (4, (.t 24))])),
   .op (some 6) (.alloc 131 (.agg (List.replicate 5 (.nilf)))),
   .op none (.st 5 (.t 6) (.t 25))] [0, 2, 3, 4, 5, 6] [2, 3, 4])
 (.seq (.block 0 (.loop [0, 2, 3, 4, 5, 6] Xs9))
 (.seq (.rg [] [.op (some 47) (.c (.mv (.t 5))),
   .op (some 48) (.c (.nilc (.t 47))),
   .op (some 49) (.c (.fldA 3 258 (.t 48))),
   .op (some 50) (.c (.ld 1 false (.t 49))),
   .op none (.st 1 (.t 2) (.t 50)),
   .op none (.st 1 (.t 3) (.int .i64 0)),
   .op none (.st 1 (.t 4) (.int .i64 0))] [2, 3, 4] [2, 3, 4])
 (.ret)))))))
theorem Yaq : Xjl Tryz.prog 16 1 X7a [.c 2 1 false, .c 3 1 false, .c 4 1 false] = true := by kernel_rfl
def Xq3 : Nat := 0x402481c411e29e083b4901f842000
def Xq5 : Nat := 0x402481c411c102d0d6c00411810420c00002481c4119102d0d601d4e5c00411820821000161005892071841840ed54b0d40010460005600c0002
def Xks : Nat := 0x41280283009207184148e04b440b33410004840122481c6106003b513c31527820000820c8003082f390ed000bc37820000901004092071851073c9381c8e18110f7c30000820092071851063461142c67800c00030000800c0100143e07b8c0440491c41890060000811420070ca10200a2481c414824d2e1040002
def n17 : Nat := 0x12000c20800ed01f0de101da0ac30000802892071041801402481c41000ed00710021e0c00020801000831c20053b9401000080001003b4002f0de080002
def X4s : S := zS [(zS [(zS [] Xq5), (zS [] Xq3)] Xks)] n17
theorem Ybm : Xt Tryz.prog 17 1 X4s [.t 2, .t 3] = true := by kernel_rfl
def Xr4 : Nat := 0x100f3800f5b107820ed3c0da108000320008102e0de040002d2c100d0f380100bb3b25232b01ba820197d02ec6cac8028f70b01baeb0806bf7ae04b6fb0f0c0bbd10002ef6db0006bf68e04b6cb0d0c1afd10006bf6a000a3d1ba12da4c0c0a3d100028f6700197d003b662c3065f4300197d9008c91647920000803ce1440c01a219e841b9b200ba078801bf7ce84b5f38305ef440017bd74001bf4ae84b5c40301bf440006fd68002e65723ce44b58383057f440015fd5802b912d5500c459e3c000200f3840c015415e4d255c0c00137840000803ce0c011111e3c00800020450801c340408040f38010e3cd461040002
def n39 : Nat := 0x120008106e0de04000200a3ce0031801403ce003003b4035870039e0c000208320008102e0de04000230400c0022c1b88208e03b4a3c3008f4961c008f4000023d1c002f18b0c01de1c000208000102e0de040002
def X1q : S := zS [(zS [] Xr4)] n39
theorem X8e : Xt Tryz.prog 39 1 X1q [.t 2] = true := by kernel_rfl
def Xq8 : Nat := 0x4003ce43b42054441054c00054112784000
def Xm9 : List It := [.op (some 3) (.c (.mv (.t 6)))]
def Xss : List Nat := [0, 1, 2, 3]
def n43 : Nat := 0x4300a0c01020401105430020003c400f10308100638914f7820000820051030810063403057812470093652ca78a003004e5d7032de1c00022040080c204014700e70321e080002
def X3x : S := zS [(zS [] Xq8)] n43
theorem X3z : Xjc Tryz.prog 43 3 6 Xm9 X3x = true := by kernel_rfl
def Xsm : Nat := 0x1025923004ae67820ed9400c2000025923004203b6a054a40048ed6706a9e0c00009648c6005a077a70010658c11830000871421870e61020269648c016494d9e1040002
def Xq9 : Nat := 0x101b69900485c7820ed6c00c200001b699004083b600547c0048ed670481e0c00006da64400578579d00105b6411830000851421070dc10201c6da64015a6cd761040002
def Xq1 : Nat := 0x4044009749e083b510030800004400860ed58151500123b59c528e03b400c255e1000004420034c37910020000831420870d21020124400d40ed44d4e1040002
def Xru : Nat := 0x401c009021e083b470030800001c00840ed3c150d00123b59c103b4e0542c0048ed670c2ba0ed00304028ae43b400c12de2000001c10032427870020000811420070c81020081c00f40ed1cd261040002
def n44 : Nat := 0x4800006cb0023b500048eed7c20000832a59230041861409648c01000ed02312249d7b812d3bce04b4d93812d322e04b4b2b812d280e44b499b812d20ee04b470b912d1a0e04b45fb812d11ae04b4363812d082ec4b41fba12d00f00400f041163c4400008208a6da64010610501b699004003b4064461275a12d0d412d09212d048e04b40100100004000100004004001159c4400008204a440086085011002003b5278100008200a1c0086005007002003b487810000820000400c023b0451f906e040002
def X2x : S := zS [(zS [] Xru), (zS [] Xq1), (zS [] Xq9), (zS [] Xsm)] n44
theorem X61 : Xt Tryz.prog 44 0 X2x [.c 0 256 true] = true := by kernel_rfl
def n45 : Nat := 0x1000195144e4b1000410c1042085003786000
def X2n : S := zS [] n45
theorem X7z : Xt Tryz.prog 45 1 X2n [] = true := by kernel_rfl
def n46 : Nat := 0x10001880541c1042085083b450031000410c1042085003788000
def X3r : S := zS [] n46
theorem X8a : Xt Tryz.prog 46 1 X3r [] = true := by kernel_rfl
def Xsp : Nat := 0x4001240e0eae0d45870200f0420ed0020030000c000200300400a08004004f7c6000
def n47 : Nat := 0x40283002042355304e4b2c00412810422450400411800081002020432380ed1cf0c661c0877830000820020421437840c2a38381040a7871c0400447c4000080041006e51040002
def X2o : S := zS [(zS [] Xsp)] n47
theorem X48 : Xt Tryz.prog 47 1 X2o [] = true := by kernel_rfl
def Xse : Nat := 0x100a2430811652de083b4a026842000
def Xm7 : Nat := 0x100a0c02890c20459158c4e4b88004184104280504004118001f1007ca24308119e06e5c802e75a2005fda3812d70b0c16bd003b5b55c05af420016bd640017f400ed60f0c05fd100017f5600000000080000000003f0ed54f0c359e2c000200a2440c20465047933800d20d3728e04b5104340f55c1000803540ed0830ce78900008028910308118c15e2800800020450801c32c40802ca24308118928d321040002
def n48 : Nat := 0x4002aa260eae0da587020270840ed0020030000c000200300400a0c00400677c600000a2890c20451801402890c2045003b4021870225e0c00020800c2043003b400400020020421c3786142a38381040af871c0400467c4000080041006e51040002
def X3y : S := zS [(zS [(zS [] Xse)] Xm7)] n48
theorem X7m : Xt Tryz.prog 48 1 X3y [] = true := by kernel_rfl
def n49 : Nat := 0x400020ed9560eae0d901183b400800c00030000800c01002a305e05a69c083b620038400637dd0017df64005b7e004109f14081e7010426c501c79800009714000001140f38d30810b2891c614308101100320001354151404108c1523c00d161cb78d900a8e12b0e00141f01178d04108c14000b2892071850c408100b0022c400b002bf0bf00af282b3838024115a70800129f1000467c70410861401de0c000208500378a2481c3185102040280082
def X4f : S := zS [] n49
theorem X6q : Xt Tryz.prog 49 1 X4f [] = true := by kernel_rfl
def n50 : Nat := 0x48002040b83781000083200081b6c0de02eb2ca48003b6b2c3069f6a001041a7d042082069f68000ba79089abc3ac2ec2dc21c3cc2fc23c3dc2cc3bc29c28c1d6cfbc2bb838193d940041064f4104108193d8c0083b622c38587200010410418603c000278401e0427df7860ed10b821080002200081743780b9c648000000020000000000fc3b5b383059f5a00104167d042082059f58000b97508003b56403054f5500104153d042082054f53000bd22c344004104105280e00008f1003c40434107840ed10b461080002200081383780b8d288003b4c2c304af4b0010412bd04208204af490080673870010410412202400021440051010c619e083b442c7842000080140101083001041000082000082001040b80003e11080002
def X2g : S := zS [] n50
theorem ok50 : Xt Tryz.prog 50 1 X2g [.t 2] = true := by kernel_rfl
def n51 : Nat := 0x4800407115e0400020003900543c10421c534b04114f3000401000400520402800412410422050000002c0002001002141bf83400020000800400b115e040002
def X3m : S := zS [] n51
theorem ok51 : Xt Tryz.prog 51 2 X3m [.t 4] = true := by kernel_rfl
def n52 : Nat := 0x12001440b101215e4587010040000800413900543c104220534c04529d0402c0041281042245000000280002001002181bf83400020000800400b10000ed15e080002
def X16 : S := zS [] n52
theorem ok52 : Xt Tryz.prog 52 2 X16 [.t 4, .t 5] = true := by kernel_rfl
def n54 : Nat := 0x4800204d0de30715374b10a00131f1927050011df24104220500978404108314000c2ca2481031c614204030008000102f0de040002
def X3u : S := zS [] n54
theorem ok54 : Xt Tryz.prog 54 1 X3u [.t 2] = true := by kernel_rfl
def Xrf : Nat := 0x10050400dc19e083b5b0031400c00011401c368401a14100402e65121805230147d5d655c051f4500147d540041051f5400008147d4c5051f4000147d040051f5000f28d0ce61c3400413000022c500014b791000082
def n96 : Nat := 0x12001019857a50640606a7ea300195f7c00617c599e88104284502279e00009d14079e2ca2470c81851020402c00802850400c60050801410032467880010470410861401de14000200100202f15e040002
def X2s : S := zS [(zS [] Xrf)] n96
theorem X8q : Xt Tryz.prog 96 2 X2s [.t 4] = true := by kernel_rfl
def n97 : Nat := 0x4800305711e581b94206e84b552c3014f4000053d4c0481b8b2060ed44b0c02fd40004100bf4d3c123b59c00bf4e0820802fd30500bf400002fd04004100bf4a0040ed24b0c80010451c123b59c18208210500004004154000200100202e11e040002
def X29 : S := zS [] n97
theorem X8i : Xt Tryz.prog 97 2 X29 [.t 3] = true := by kernel_rfl
def n98 : Nat := 0x100069c0546c10425456580030805c00415810425450002400000800925015132bb0c22c544fa040f83d00010030000c000200300400504011210110138004134aec308c14000000b28920718510308100b0020040800c92815040c30880010470410861401de1800020040800c10f816f040002
def X30 : S := zS [] n98
theorem X5z : Xt Tryz.prog 98 3 X30 [] = true := by kernel_rfl
def n99 : Nat := 0x12000c12847860ed24b0c80010451c123b59c18208210500004004120000200100202e11e040002
def X32 : S := zS [] n99
theorem X6c : Xt Tryz.prog 99 2 X32 [.t 3] = true := by kernel_rfl
def X7j : Nat := 0x4800404715e185089e4e04000010000200100202e15e040002
def Xt2 : S := zS [] X7j
theorem Xya : Xt Tryz.prog 100 2 Xt2 [.t 4] = true := by kernel_rfl
def X4t : Nat := 0x120008110379412d0cc0c000300008000102e0de040002
def Xsy : S := zS [] X4t
theorem Xyd : Xt Tryz.prog 101 1 Xsy [.t 2] = true := by kernel_rfl
def X5v : Nat := 0x4800405115e02e40a20f38b0c12bd04004af4d0402da7012bd3187012bd04004af400012bd2402064031d870100561c00038000200100202e15e040002
def Xvl : S := zS [] X5v
theorem Xzu : Xt Tryz.prog 129 2 Xvl [.t 4] = true := by kernel_rfl
end Go.Proofs.YtmapdjjigmkbfaaGreatDoor
/- The same statements with their regions folded into expressions, printed by the fold itself; that they are that is checked by the kernel. No condition. -/
namespace Go.Proofs.YtmapdjjigmkbfaaGreatDoor
open Go Go.Ab
set_option maxRecDepth 100000
def Xke : S2 := zL [] [] Xr0
def Un := by
 have h := Eq.refl Xke
 conv at h => rhs; cbv
 exact h
def X6z : FS2 := .pre (.rg [.op (some 2) (.alloc 55 .nils), .op (some 3) (.alloc 3 (.int .i64 0)), .op (some 4) (.alloc 45 (.int .i64 0))] [(0, (.a (.t 0))), (2, (.a (.t 2))), (3, (.a (.t 3))), (4, (.a (.t 4)))] [])
 (.pre (.seq (.rg [] [(0, (.a (.t 0))), (2, (.a (.t 2))), (3, (.a (.t 3))), (4, (.a (.t 4))), (9, (.b (.bin .gtr (.t 0) (.t 1)) (.u (.lenS (.t 0)) (.a (.t 0))) (.a (.int .i64 65536))))] [])
 (.cond (.t 9) (.seq (.rg [.op none (.st 1 (.t 2) .nils), .op none (.st 1 (.t 3) (.int .i64 0)), .op none (.st 1 (.t 4) (.int .i64 2))] [(2, (.a (.t 2))), (3, (.a (.t 3))), (4, (.a (.t 4)))] [])
 (.ret)) (.skip)))
 (.dfr [.op (some 10) (.c (.mkf 43 [] [(.t 2), (.t 3), (.t 4)]))] [(0, (.a (.t 0))), (2, (.a (.t 2))), (3, (.a (.t 3))), (4, (.a (.t 4))), (10, (.a (.t 10)))] 10
 (.seq (.rg [.op (some 12) (.pcall 44 []), .lt 11 [] (.a (.t 0)), .op (some 13) (.c (.bld [(.str []), (.int .i64 0), (.agg (List.replicate 256 (.int .i64 0))), .nils] [(0, (.t 11)), (2, (.t 12))])), .op (some 14) (.box 130 (.t 13)), .op (some 5) (.mvg 59 4 (.t 14) (.t 14) [3])] [(0, (.a (.t 0))), (2, (.a (.t 2))), (3, (.a (.t 3))), (4, (.a (.t 4))), (5, (.a (.t 5)))] [2, 3, 4])
 (.seq (.rg [.lt 15 [] (.a (.t 5)), .op (some 16) (.c (.mkf 45 [(.t 15)] [])), .lt 17 [] (.a (.t 5)), .op (some 18) (.c (.mkf 46 [(.t 17)] [])), .lt 19 [] (.a (.t 5)), .op (some 20) (.c (.mkf 47 [(.t 19)] [])), .lt 21 [] (.a (.t 5)), .op (some 22) (.c (.mkf 48 [(.t 21)] [])), .lt 23 [] (.a (.t 5)), .op (some 24) (.c (.mkf 49 [(.t 23)] [])), .op (some 25) (.c (.bld [.nilf, .nilf, .nilf, .nilf, .nilf] [(0, (.t 16)), (1, (.t 18)), (2, (.t 20)), (3, (.t 22)), (4, (.t 24))])), .op (some 6) (.alloc 131 (.agg [.nilf, .nilf, .nilf, .nilf, .nilf])), .op none (.st 5 (.t 6) (.t 25))] [(0, (.a (.t 0))), (2, (.a (.t 2))), (3, (.a (.t 3))), (4, (.a (.t 4))), (5, (.a (.t 5))), (6, (.a (.t 6)))] [2, 3, 4])
 (.seq (.block 0 (.loop [0, 2, 3, 4, 5, 6] Xke))
 (.seq (.rg [.chk [] (.u (.ld 1 false (.t 0)) (.u (.fldA 3 258 (.t 0)) (.u (.nilc (.t 0)) (.a (.t 5))))), .lt 50 [] (.u (.ld 1 false (.t 0)) (.u (.fldA 3 258 (.t 0)) (.u (.nilc (.t 0)) (.a (.t 5))))), .op none (.st 1 (.t 2) (.t 50)), .op none (.st 1 (.t 3) (.int .i64 0)), .op none (.st 1 (.t 4) (.int .i64 0))] [(2, (.a (.t 2))), (3, (.a (.t 3))), (4, (.a (.t 4)))] [2, 3, 4])
 (.ret)))))))
theorem Ybn : X7a.lift [] = some X6z := by kernel_rfl
def Xgm : S2 := zL [] [] Xq3
def Xbo := by
 have h := Eq.refl Xgm
 conv at h => rhs; cbv
 exact h
def Xg1 : S2 := zL [] [] Xq5
def Xle := by
 have h := Eq.refl Xg1
 conv at h => rhs; cbv
 exact h
def Xfz : S2 := zL [] [Xg1, Xgm] Xks
def Xg5 := by
 have h := fun (a b : S2) => Eq.refl (zL [] [a, b] Xks)
 conv at h => intro a b; rhs; cbv
 have e : Xfz = _ := h Xg1 Xgm
 exact e
def X7q : S2 := zL [] [Xfz] n17
def Yaf := by
 have h := fun (a : S2) => Eq.refl (zL [] [a] n17)
 conv at h => intro a; rhs; cbv
 have e : X7q = _ := h Xfz
 exact e
theorem X9e : X4s.lift [] = some X7q := by kernel_rfl
def Xfa : S2 := zL [] [] Xr4
def Xto := by
 have h := Eq.refl Xfa
 conv at h => rhs; cbv
 exact h
def X6b : S2 := zL [] [Xfa] n39
def Ybj := by
 have h := fun (a : S2) => Eq.refl (zL [] [a] n39)
 conv at h => intro a; rhs; cbv
 have e : X6b = _ := h Xfa
 exact e
theorem X9a : X1q.lift [] = some X6b := by kernel_rfl
def Xfl : S2 := zL [] [] Xq8
def Xth := by
 have h := Eq.refl Xfl
 conv at h => rhs; cbv
 exact h
def Xkm : List It2 := []
def Xl3 : List (Nat × E) := [(0, (.a (.t 0))), (1, (.a (.t 1))), (2, (.a (.t 2))), (3, (.a (.t 6)))]
theorem X5e : Ue [] Xss [] Xm9 [] [] [] = some (Xkm, Xl3) := by kernel_rfl
def X8l : S2 := zL [] [Xfl] n43
def X5u := by
 have h := fun (a : S2) => Eq.refl (zL [] [a] n43)
 conv at h => intro a; rhs; cbv
 have e : X8l = _ := h Xfl
 exact e
theorem X5x : X3x.lift [] = some X8l := by kernel_rfl
def Xku : S2 := zL [] [] Xsm
def Xla := by
 have h := Eq.refl Xku
 conv at h => rhs; cbv
 exact h
def Xn0 : S2 := zL [] [] Xq9
def Xmc := by
 have h := Eq.refl Xn0
 conv at h => rhs; cbv
 exact h
def Xlo : S2 := zL [] [] Xq1
def Xni := by
 have h := Eq.refl Xlo
 conv at h => rhs; cbv
 exact h
def Xna : S2 := zL [] [] Xru
def Xnq := by
 have h := Eq.refl Xna
 conv at h => rhs; cbv
 exact h
def X8y : S2 := .seq (.rg [.op (some 0) (.alloc 127 (.agg (List.replicate 256 (.int .i64 0))))] [(0, (.a (.t 0)))] [])
 (.seq (.seq (.rg [] [(0, (.a (.t 0))), (7, (.a (.int .i64 0)))] [])
 (.block 0 (.loop [0, 7] Xna)))
 (.seq (.seq (.rg [] [(0, (.a (.t 0))), (17, (.a (.int .i64 0)))] [])
 (.block 2 (.loop [0, 17] Xlo)))
 (.seq (.seq (.rg [.op (some 24) (.blo 5 1 [(.int .u8 0), (.int .u8 0), (.int .u8 0), (.int .u8 0)] [(0, (.int .u8 32)), (1, (.int .u8 9)), (2, (.int .u8 10)), (3, (.int .u8 13))]), .op (some 25) (.cvb (.t 24))] [(0, (.a (.t 0))), (25, (.a (.t 25))), (26, (.u (.lenL (.t 0)) (.a (.t 25)))), (27, (.a (.int .i64 0)))] [])
 (.block 4 (.loop [0, 25, 26, 27] Xn0)))
 (.seq (.seq (.rg [.op (some 34) (.blo 5 1 (List.replicate 15 (.int .u8 0)) [(0, (.int .u8 123)), (1, (.int .u8 125)), (2, (.int .u8 40)), (3, (.int .u8 41)), (4, (.int .u8 59)), (5, (.int .u8 44)), (6, (.int .u8 61)), (7, (.int .u8 35)), (8, (.int .u8 47)), (9, (.int .u8 60)), (10, (.int .u8 33)), (11, (.int .u8 45)), (12, (.int .u8 46)), (13, (.int .u8 58)), (14, (.int .u8 43))]), .op (some 35) (.cvb (.t 34))] [(0, (.a (.t 0))), (35, (.a (.t 35))), (36, (.u (.lenL (.t 0)) (.a (.t 35)))), (37, (.a (.int .i64 0)))] [])
 (.block 6 (.loop [0, 35, 36, 37] Xku)))
 (.seq (.rg [.chk [] (.u (.ld 256 true (.t 0)) (.a (.t 0))), .lt 44 [] (.u (.ld 256 true (.t 0)) (.a (.t 0))), .op none (.st 256 (.t 0) (.t 44))] [(0, (.a (.t 0)))] [])
 (.ret))))))
theorem Ybv : X2x.lift [] = some X8y := by kernel_rfl
def X79 : S2 := zL [] [] n45
def X9q := by
 have h := Eq.refl X79
 conv at h => rhs; cbv
 exact h
theorem Yaa : X2n.lift [] = some X79 := by kernel_rfl
def X57 : S2 := zL [] [] n46
def Yaj := by
 have h := Eq.refl X57
 conv at h => rhs; cbv
 exact h
theorem X95 : X3r.lift [] = some X57 := by kernel_rfl
def Xe9 : S2 := zL [] [] Xsp
def Xvz := by
 have h := Eq.refl Xe9
 conv at h => rhs; cbv
 exact h
def X44 : S2 := zL [] [Xe9] n47
def Ya3 := by
 have h := fun (a : S2) => Eq.refl (zL [] [a] n47)
 conv at h => intro a; rhs; cbv
 have e : X44 = _ := h Xe9
 exact e
theorem Ya4 : X2o.lift [] = some X44 := by kernel_rfl
def Xgc : S2 := zL [] [] Xse
def Xvx := by
 have h := Eq.refl Xgc
 conv at h => rhs; cbv
 exact h
def Xf7 : S2 := zL [] [Xgc] Xm7
def Xsx := by
 have h := fun (a : S2) => Eq.refl (zL [] [a] Xm7)
 conv at h => intro a; rhs; cbv
 have e : Xf7 = _ := h Xgc
 exact e
def X7k : S2 := zL [] [Xf7] n48
def Yar := by
 have h := fun (a : S2) => Eq.refl (zL [] [a] n48)
 conv at h => intro a; rhs; cbv
 have e : X7k = _ := h Xf7
 exact e
theorem Yac : X3y.lift [] = some X7k := by kernel_rfl
def X74 : S2 := zL [] [] n49
def X9v := by
 have h := Eq.refl X74
 conv at h => rhs; cbv
 exact h
theorem Yai : X4f.lift [] = some X74 := by kernel_rfl
def X8j : S2 := zL [39, 102] [] n50
def Et50 := by
 have h := Eq.refl X8j
 conv at h => rhs; cbv
 exact h
theorem lf50 : X2g.lift [39, 102] = some X8j := by kernel_rfl
def X8x : S2 := zL [] [] n51
def Et51 := by
 have h := Eq.refl X8x
 conv at h => rhs; cbv
 exact h
theorem lf51 : X3m.lift [] = some X8x := by kernel_rfl
def X41 : S2 := zL [] [] n52
def Et52 := by
 have h := Eq.refl X41
 conv at h => rhs; cbv
 exact h
theorem lf52 : X16.lift [] = some X41 := by kernel_rfl
def X63 : S2 := zL [] [] n54
def Et54 := by
 have h := Eq.refl X63
 conv at h => rhs; cbv
 exact h
theorem lf54 : X3u.lift [] = some X63 := by kernel_rfl
def Xfo : S2 := zL [] [] Xrf
def Xs4 := by
 have h := Eq.refl Xfo
 conv at h => rhs; cbv
 exact h
def X84 : S2 := zL [] [Xfo] n96
def Ybd := by
 have h := fun (a : S2) => Eq.refl (zL [] [a] n96)
 conv at h => intro a; rhs; cbv
 have e : X84 = _ := h Xfo
 exact e
theorem X9b : X2s.lift [] = some X84 := by kernel_rfl
def X67 : S2 := zL [] [] n97
def X9n := by
 have h := Eq.refl X67
 conv at h => rhs; cbv
 exact h
theorem Ybk : X29.lift [] = some X67 := by kernel_rfl
def X78 : S2 := zL [] [] n98
def Yba := by
 have h := Eq.refl X78
 conv at h => rhs; cbv
 exact h
theorem Yag : X30.lift [] = some X78 := by kernel_rfl
def X83 : S2 := zL [] [] n99
def X9z := by
 have h := Eq.refl X83
 conv at h => rhs; cbv
 exact h
theorem Ya6 : X32.lift [] = some X83 := by kernel_rfl
def Xys : S2 := zL [] [] X7j
def X3a := by
 have h := Eq.refl Xys
 conv at h => rhs; cbv
 exact h
theorem X3k : Xt2.lift [] = some Xys := by kernel_rfl
def Xw8 : S2 := zL [] [] X4t
def X4a := by
 have h := Eq.refl Xw8
 conv at h => rhs; cbv
 exact h
theorem X17 : Xsy.lift [] = some Xw8 := by kernel_rfl
def Xxb : S2 := zL [] [] X5v
def X2d := by
 have h := Eq.refl Xxb
 conv at h => rhs; cbv
 exact h
theorem X20 : Xvl.lift [] = some Xxb := by kernel_rfl
end Go.Proofs.YtmapdjjigmkbfaaGreatDoor
/- Contracts: classes of bytes and names, of the program and of the document. Condition: the program is the seat's. -/
namespace Go.Proofs.YtmapdjjigmkbfaaGreatDoor
open Go Go.Ab Go.Lx
theorem mixed : Tryz.prog.follows .mixedOrders = true := by kernel_rfl
set_option maxRecDepth 100000

def fnS (f : List UInt8 → Bool) : Ab.Fn := ⟨fun vs => match vs with | [.d (.str _)] => True | _ => False, fun vs => match vs with | [.d (.str s)] => .d (.bool (f s)) | _ => .any⟩
@[simp] theorem fnS_pre (f : List UInt8 → Bool) (s : List UInt8) : (fnS f).pre [.d (.str s)] = True := by simp only [fnS]
@[simp] theorem fnS_val (f : List UInt8 → Bool) (s : List UInt8) : (fnS f).val [.d (.str s)] = .d (.bool (f s)) := by simp only [fnS]
theorem Xzi {P : Prg} {k : Nat} {f : List UInt8 → Bool} (h : ∀ s ob (K : V → Prop), K (.d (.bool (f s))) → PCall P k [.d (.str s)] ob K) : PFn P k (fnS f) := by
 intro vs hp ob K hK
 simp only [fnS] at hp hK
 split at hp
 ·exact h _ _ _ hK
 ·exact hp.elim

section
variable {P : Prg} (hP : P.p = Tryz.prog)
include hP
theorem c_Name : PFn P 39 (fnS nameB) := Xzi fun s ob K h => by
 refine pcall_lift hP mixed (ds := [.str s]) X8e X9a TOk.nil ?_
 have h' : ∀ b, b = nameB s → K (.d (.bool b)) := fun b e => e ▸ h
 clear h
 simp [Ybj]
 refine ⟨fun hne => h' _ ?_, fun h0 h1 => ?_⟩
 ·rcases hne with rfl | h1
  ·simp [nameB]
  ·simp [nameB]; omega
 ·have h0' : 1 ≤ s.length := by cases s with | nil => exact absurd rfl h0 | cons => simp
  refine ALoop.go (ι := Nat) (fun k => [(0, .d (.str s)), (14, .d (.int .i64 s.length)), (15, .d (.int .i64 k))]) (fun _ => []) (fun k => k ≤ s.length ∧ (∀ i, i < k → Xgb (s.getD i 0).toNat = true) ∧ (0 < k → Zm (s.getD 0 0).toNat = true)) (fun k => s.length - k) 0 ⟨by omega, by omega, by omega⟩ (by simp) rfl ?_
  rintro k ⟨hk, hp, hl⟩ R rn re rr _
  simp [Xto]
  simp only [List.getD_eq_getElem?_getD] at hp hl rn
  refine ⟨fun hlt => ⟨hlt, fun e1 e2 e3 => rr _ _ ?_, fun e => rn [] (k + 1) _ _ ⟨by omega, fun i hi => ?_, fun _ => ?_⟩ (by omega) ?_ rfl rfl rfl⟩, fun hge => re _ _ _ ?_⟩
  ·simp
   refine h' _ (Eq.symm ?_)
   rw [Bool.eq_false_iff]
   intro hn
   simp only [nameB, Bool.and_eq_true, Xj8, List.getD_eq_getElem?_getD] at hn
   have := hn.2 k hlt
   have h2 := hn.1.2
   rcases e3 with rfl | e3
   ·simp [Zm] at h2; omega
   ·simp [Xgb, Zm, Jk] at this; omega
  ·by_cases hi' : i = k
   ·subst hi'; simp [Xgb, Zm, Jk]; omega
   ·exact hp i (by omega)
  ·by_cases h2 : k = 0
   ·subst h2; simp [Zm]; omega
   ·exact hl (by omega)
  ·simp; exact IntWalk.i64_in _ (by omega)
  ·have hk' : k = s.length := by omega
   subst hk'
   simp
   refine h' _ (Eq.symm ?_)
   simp only [nameB, Bool.and_eq_true, Xj8, List.getD_eq_getElem?_getD]
   exact ⟨⟨by simp; omega, hl h0'⟩, hp⟩
end
end Go.Proofs.YtmapdjjigmkbfaaGreatDoor
/- Contracts: the first element with a name. Condition: the program is the seat's. -/
namespace Go.Sx
open Go Go.Ab Go.Lx
def Xq {α : Type} (f : α → B) : List α → B → Int → Int
 | [], _, _ => -1
 | x :: r, n, k => if f x = n then k else Xq f r n (k + 1)
theorem Ve {α : Type} (f : α → B) (n : B) : ∀ (l : List α) (j : Nat) (k : Int), j ≤ l.length → (∀ i (h : i < l.length), i < j → f l[i] ≠ n) → Xq f l n k = Xq f (l.drop j) n (k + j)
 | l, 0, k, _, _ => by simp
 | [], j + 1, k, h, _ => by simp at h
 | x :: r, j + 1, k, h, hn => by
  have h0 := hn 0 (by simp) (by omega)
  simp only [List.getElem_cons_zero] at h0
  simp only [Xq, h0, if_false, List.drop_succ_cons]
  rw [Ve f n r j (k + 1) (by simpa using h) (fun i hi hj => by have := hn (i + 1) (by simpa using hi) (by omega); simpa using this)]
  congr 1; push_cast; omega
theorem V3 {α : Type} (f : α → B) (n : B) (l : List α) (j : Nat) (h : j < l.length) (hn : ∀ i (h : i < l.length), i < j → f l[i] ≠ n) (he : f l[j] = n) : Xq f l n 0 = j := by
 rw [Ve f n l j 0 (by omega) hn, List.drop_eq_getElem_cons h]
 simp [Xq, he]
theorem Z9 {α : Type} (f : α → B) (n : B) (l : List α) (hn : ∀ i (h : i < l.length), f l[i] ≠ n) : Xq f l n 0 = -1 := by
 rw [Ve f n l l.length 0 (Nat.le_refl _) (fun i hi _ => hn i hi)]
 simp [Xq]
end Go.Sx
namespace Go.Proofs.YtmapdjjigmkbfaaGreatDoor
open Go Go.Ab Go.Lx Go.Sx
set_option maxRecDepth 100000
section
variable {P : Prg} (hP : P.p = Tryz.prog)
include hP
theorem Xa2 {l : List RVar} (hl : l.length ≤ 9223372036854775807) (n : B) {ob : Objs} {K : V → Prop} (h : K (.d (.int .i64 (Xq RVar.name l n 0)))) : PCall P 94 [.d (.list 4 (l.map RVar.enc)), .d (.str n)] ob K := by
 have wr : ∀ {k n : Nat}, k < n → n ≤ 9223372036854775807 → IntKind.i64.wrap ((k : Int) + 1) = (k : Int) + 1 := fun h1 h2 => IntWalk.i64_in _ (by omega)
 refine pcall_lift hP mixed (ds := [.list 4 (l.map RVar.enc), .str n]) X66 Yap TOk.nil ?_
 simp [Ybf]
 refine ALoop.go (ι := Nat) (fun k => [(1, .d (.str n)), (7, .d (.list 4 (l.map RVar.enc))), (8, .d (.int .i64 l.length)), (9, .d (.int .i64 k))]) (fun _ => []) (fun k => k ≤ l.length ∧ ∀ i (h : i < l.length), i < k → l[i].name ≠ n) (fun k => l.length - k) 0 ⟨Nat.zero_le _, fun i _ h => by omega⟩ (by simp) (by simp) ?_
 rintro k ⟨hk, hn⟩ R rn re rr rp
 by_cases hlt : k < l.length
 ·simp [Xmp, hlt, RVar.enc]
  refine ⟨fun e => rr _ _ ?_, fun e => rn [] (k + 1) _ _ ⟨by omega, fun i hi hj => ?_⟩ (by omega) (by simp [wr hlt hl]) (by simp [young]) (by simp [young]) (by simp [young])⟩
  ·simp
   rw [V3 RVar.name n l k hlt hn e] at h
   exact h
  ·rcases Nat.lt_or_ge i k with h1 | h1
   ·exact hn i hi h1
   ·have : i = k := by omega
    subst this; exact e
 ·have : k = l.length := by omega
  subst this
  simp [Xmp]
  refine re _ _ _ ?_
  simp
  rw [Z9 RVar.name n l (fun i hi => hn i hi hi)] at h
  exact h
end
end Go.Proofs.YtmapdjjigmkbfaaGreatDoor
/- A call whose results keep what they own. Over any program; no condition. -/
namespace Go.Ab
open Go
def Xzj (n : Nat) (rs : List RV) (K : Out → Objs → Prop) : Zt
 | .normal, sl, ob => Zu sl ob rs fun vs => Xx n (K (.ret (Wb vs))) vs ob
 | .ret, sl, ob => Zu sl ob rs fun vs => Xx n (K (.ret (Wb vs))) vs ob
 | .panic v, _, ob => Xx n (K (.panic v)) [v] ob
 | .exit _, _, _ => False
section
variable {n k : Nat} {sl : Xb} {ob : Objs} {v : V}
end
theorem Xfb {P : Prg} (hm : P.p.follows .mixedOrders = true) {f : Nat} {s : S} {rs : List RV} {vs : List V} {ob : Objs} {K : Out → Objs → Prop} (hc : Xt P.p f vs.length s rs = true)
  (h : cwp P s (Xzj (fresh ob) rs K) (Ua 0 vs) ob) : ACall P f vs ob K := by
 unfold Xt at hc
 split at hc
 ·rename_i fn hf
  split at hc
  ·rename_i code hb
   simp only [Bool.and_eq_true, decide_eq_true_eq] at hc
   obtain ⟨⟨hn, h1⟩, h2⟩ := hc
   refine ⟨fun w ρ args hO hg hr => calls_of_wp hf hb ?_⟩
   let c : Ctx := ⟨w, Xh5 ρ, fn.ntmps, [], P.g, ρ.m, []⟩
   have hlen : args.length = vs.length := by simpa using Yq hr
   have m : Mod c ρ.xo ρ (Ua 0 vs) ob { tmps := args.toArray ++ Array.replicate (fn.ntmps - args.toArray.size) undef, defers := [] } w := by
    refine ⟨⟨Nat.le_refl _, fun _ _ _ => rfl, fun b h => .inr h, rfl, rfl, rfl, fun id o h => ⟨o, h, .refl o⟩, (fun p hp => by cases hp)⟩, hO, ?_, ?_, rfl, rfl, hg⟩
    ·refine V4 hr 0 _ (fun i hi => ?_)
     simp [Array.getElem?_append, hi]
    ·simp [c]; omega
   refine wp_mono (X2 hm rfl code s _ _ _ ρ _ w h1 h m) ?_
   rintro e a' w' ⟨ae, sl', ob', ρ', hq, he, m'⟩
   have old : ∀ kp id o, ρ.m id = some o → young (fresh ob) kp id = false := fun kp id o h0 => by
    obtain ⟨x, hx⟩ := hO.dom id o h0
    have hlt : ¬ fresh ob ≤ id := fun hle => by rw [Xv _ _ hle] at hx; cases hx
    simp [young, hlt]
   have tr : ∀ {ρ2 : Env}, Tr w' ρ' w' ρ2 → ∀ kp, Tr w ρ w' (ρ2.del (young (fresh ob) kp)) := fun {ρ2} t kp => by
    have b2 := m'.base.tr t
    refine ⟨b2.size, fun b h1 h2 => b2.keep b h2 h1, fun b h1 => (b2.owns b (W2 h1)).symm, ?_, ?_, fun id o h1 => ?_, b2.tape, b2.os, b2.out⟩
    ·show ρ2.xo = ρ.xo; rw [t.xo, m'.xo]
    ·show ρ2.gl = ρ.gl; rw [t.gl, m'.gl, hg]
    ·obtain ⟨o', h3, h4⟩ := b2.same id o h1
     exact ⟨o', by simp only [Env.del, old kp id o h1]; exact h3, h4⟩
   have hfin : Zu sl' ob' rs (fun vs => Xx (fresh ob) (K (.ret (Wb vs))) vs ob') → a'.defers = [] ∧ ∃ v, (results fn a'.tmps).run P.p w' = .ok v w' ∧ ∃ out ob2 ρ2, K out ob2 ∧ Xj7 w' ρ2 (.returned v) out ∧ OM w' ρ2 ob2 ∧ Tr w ρ w' ρ2 := by
    intro hq
    obtain ⟨vs, us, hk, hrep, hrun⟩ := Z7 (P := P.p) (fn := fn) m'.sm m'.om h2 hq
    obtain ⟨kp, k1, k2, k3⟩ := hk
    exact ⟨m'.df, Xmn us, hrun, .ret (Wb vs), _, _, k3, V0 (Xdr k1 hrep), m'.om.del k2, tr (Tr.refl _ _) kp⟩
   cases ae with
   | normal =>
    cases e <;> simp only [exM] at he
    exact hfin hq
   | ret =>
    cases e <;> simp only [exM] at he
    exact hfin hq
   | exit n => exact hq.elim
   | panic v =>
    cases e <;> simp only [exM] at he
    obtain ⟨u, rfl, hu⟩ := he
    obtain ⟨kp, k1, k2, k3⟩ := hq
    simp only [V.mens, Bool.or_false] at k1
    exact ⟨m'.df, .panic v, _, _, k3, ⟨u, rfl, V.rep_del k1 hu⟩, m'.om.del k2, tr (Tr.refl _ _) kp⟩
  ·simp at hc
 ·simp at hc

end Go.Ab
/- Contracts: names.first of purposes. Condition: the program is the seat's. -/
namespace Go.Proofs.YtmapdjjigmkbfaaGreatDoor
open Go Go.Ab Go.Lx Go.Sx
set_option maxRecDepth 100000
section
variable {P : Prg} (hP : P.p = Tryz.prog)
include hP
theorem X1o : Xg P.p 93 = true := by rw [hP]; kernel_rfl
theorem X4c : Xg P.p 126 = true := by rw [hP]; kernel_rfl
theorem X4z {x : RPurpose} {ob : Objs} {K : Out → Objs → Prop} (h : K (.ret (.d (.str x.name))) ob) : ACall P 93 [.d x.enc] ob K :=
 PCall.acall (by
  refine pcall_lift hP mixed (ds := [x.enc]) X64 X9p TOk.nil ?_
  simp [X9l, RPurpose.enc]
  exact h)
abbrev obF (o : Ob) (n : B) : Objs := [(2, .box 9 (.d (.str n))), (1, .box 187 (.fn 93 [] [])), (0, o)]
theorem Yad {x : RPurpose} {n : B} {o : Ob} {K : Out → Objs → Prop} (h : K (.ret (.d (.bool (x.name == n)))) (obF o n)) : ACall P 126 [.d x.enc, .ptr 1 [], .ptr 2 []] (obF o n) K := by
 refine acall_lift hP mixed Xx9 X3q TOk.nil fun _ hm => ?_
 simp [X3v, X1o hP]
 have hn := hm []
 simp [fresh] at hn
 refine ⟨by rw [D.size_shape]; simp [RPurpose.enc, D.sz, D.szs], by simp [RPurpose.enc], X4z hP ?_, X4z hP ?_⟩
 ·simp
  refine ⟨[], by simp, ?_, ?_⟩
  ·simp [young]; simpa [young] using hn
  ·simpa [young] using h
 ·simp
  refine ⟨[], by simp, ?_, ?_⟩
  ·simp [young]; simpa [young] using hn
  ·simpa [young] using h
theorem X2b {l : List RPurpose} (hl : l.length ≤ 9223372036854775807) {n : B} {o : Ob} {K : Out → Objs → Prop} (h : K (.ret (.d (.int .i64 (Xq RPurpose.name l n 0)))) (obF o n)) : ACall P 125 [.d (.list 3 (l.map RPurpose.enc)), .fn 126 [] [.ptr 1 [], .ptr 2 []]] (obF o n) K := by
 have wr : ∀ {k n : Nat}, k < n → n ≤ 9223372036854775807 → IntKind.i64.wrap ((k : Int) + 1) = (k : Int) + 1 := fun h1 h2 => IntWalk.i64_in _ (by omega)
 refine acall_lift hP mixed Xxy X4m TOk.nil fun _ hm => ?_
 have hno := hm []
 simp [fresh] at hno
 have lv : ∀ {v : V}, V.mens (young 3 []) [v] = false → K (.ret v) (obF o n) → Xx 3 (K (.ret v)) [v] (obF o n) := fun h1 h2 => ⟨[], h1, by simpa [young] using hno, by simpa [young] using h2⟩
 simp [X35]
 refine ALoop.go (ι := Nat) (fun k => [(0, .d (.list 3 (l.map RPurpose.enc))), (1, .fn 126 [] [.ptr 1 [], .ptr 2 []]), (7, .d (.int .i64 l.length)), (8, .d (.int .i64 k))]) (fun _ => obF o n) (fun k => k ≤ l.length ∧ ∀ i (h : i < l.length), i < k → l[i].name ≠ n) (fun k => l.length - k) 0 ⟨Nat.zero_le _, fun i _ h => by omega⟩ (by simp) (by simp) ?_
 rintro k ⟨hk, hn⟩ R rn re rr rp
 by_cases hlt : k < l.length
 ·simp [Xhf, hlt, X4c hP]
  refine ⟨⟨by simp [RPurpose.enc, D.sz, D.szs], by simp [RPurpose.enc]⟩, Yad hP ?_⟩
  by_cases e : l[k].name = n
  ·simp [Xih, e]
   refine rr _ _ ?_
   simp
   rw [V3 RPurpose.name n l k hlt hn e] at h
   exact lv (by simp) h
  ·have e' : (l[k].name == n) = false := by simpa using e
   simp [Xih, Xqh, e']
   refine rn [] (k + 1) _ _ ⟨by omega, fun i hi hj => ?_⟩ (by omega) (by simp [wr hlt hl]) (by simp [young]) (by simp [young]) (by simpa [young] using hno)
   rcases Nat.lt_or_ge i k with h1 | h1
   ·exact hn i hi h1
   ·have : i = k := by omega
    subst this; exact e
 ·have : k = l.length := by omega
  subst this
  simp [Xhf]
  refine re _ _ _ ?_
  simp
  rw [Z9 RPurpose.name n l (fun i hi => hn i hi hi)] at h
  exact lv (by simp) h
def X7 (i : Int) : V := if i < 0 then .tup [.d (.int .i64 0), .d (.bool false)] else .tup [.d (.int .i64 i), .d (.bool true)]
theorem Xvu {l : List RPurpose} (hl : l.length ≤ 9223372036854775807) {n : B} {o : Ob} {K : Out → Objs → Prop} (h : K (.ret (X7 (Xq RPurpose.name l n 0))) [(0, o)]) : ACall P 92 [.d (.list 3 (l.map RPurpose.enc)), .fn 93 [] [], .d (.str n)] [(0, o)] K := by
 refine acall_lift hP mixed X5y Ybh TOk.nil fun _ hm => ?_
 have hno := hm []
 simp [fresh] at hno
 simp [Ybu]
 refine X2b hP hl ?_
 simp [Xti]
 unfold X7 at h
 constructor
 ·intro hi
  simp only [hi, if_true] at h
  exact ⟨[], by simp, by simpa [young] using hno, by simpa [young] using h⟩
 ·intro hi
  rw [if_neg (by omega)] at h
  exact ⟨[], by simp, by simpa [young] using hno, by simpa [young] using h⟩
theorem Xkf {y : RSrc} (hl : y.purposes.length ≤ 9223372036854775807) {n : B} {ob : Objs} {K : V → Prop} (h : K (X7 (Xq RPurpose.name y.purposes n 0))) : PCall P 40 [.d y.enc, .d (.str n)] ob K := by
 refine pcall_lift hP mixed (ds := [y.enc, .str n]) X5l Yab TOk.nil ?_
 simp [X98, RSrc.enc, Xe]
 refine Xvu hP hl ?_
 unfold X7 at h ⊢
 split at h
 ·rename_i hi
  simp [hi]
  exact h
 ·rename_i hi
  simp [hi]
  exact h
end
end Go.Proofs.YtmapdjjigmkbfaaGreatDoor
/- Contracts: names.first of schemas. Condition: the program is the seat's. -/
namespace Go.Proofs.YtmapdjjigmkbfaaGreatDoor
open Go Go.Ab Go.Lx Go.Sx
set_option maxRecDepth 100000
section
variable {P : Prg} (hP : P.p = Tryz.prog)
include hP
theorem Xyl : Xg P.p 114 = true := by rw [hP]; kernel_rfl
theorem Xz5 : Xg P.p 136 = true := by rw [hP]; kernel_rfl
theorem Xze {x : RSchema} {ob : Objs} {K : Out → Objs → Prop} (h : K (.ret (.d (.str x.name))) ob) : ACall P 114 [.d x.enc] ob K :=
 PCall.acall (by
  refine pcall_lift hP mixed (ds := [x.enc]) Xyx X1l TOk.nil ?_
  simp [X4n, RSchema.enc]
  exact h)
abbrev Xum (o : Ob) (n : B) : Objs := [(2, .box 9 (.d (.str n))), (1, .box 208 (.fn 114 [] [])), (0, o)]
theorem X3h {x : RSchema} {n : B} {o : Ob} {K : Out → Objs → Prop} (h : K (.ret (.d (.bool (x.name == n)))) (Xum o n)) : ACall P 136 [.d x.enc, .ptr 1 [], .ptr 2 []] (Xum o n) K := by
 refine acall_lift hP mixed X0d X2e TOk.nil fun _ hm => ?_
 simp [X3l, Xyl hP]
 have hn := hm []
 simp [fresh] at hn
 refine ⟨by rw [D.size_shape]; simp [RSchema.enc, D.sz, D.szs], by simp [RSchema.enc], Xze hP ?_, Xze hP ?_⟩
 ·simp
  refine ⟨[], by simp, ?_, ?_⟩
  ·simp [young]; simpa [young] using hn
  ·simpa [young] using h
 ·simp
  refine ⟨[], by simp, ?_, ?_⟩
  ·simp [young]; simpa [young] using hn
  ·simpa [young] using h
theorem X0b {l : List RSchema} (hl : l.length ≤ 9223372036854775807) {n : B} {o : Ob} {K : Out → Objs → Prop} (h : K (.ret (.d (.int .i64 (Xq RSchema.name l n 0)))) (Xum o n)) : ACall P 135 [.d (.list 6 (l.map RSchema.enc)), .fn 136 [] [.ptr 1 [], .ptr 2 []]] (Xum o n) K := by
 have wr : ∀ {k n : Nat}, k < n → n ≤ 9223372036854775807 → IntKind.i64.wrap ((k : Int) + 1) = (k : Int) + 1 := fun h1 h2 => IntWalk.i64_in _ (by omega)
 refine acall_lift hP mixed X0i X15 TOk.nil fun _ hm => ?_
 have hno := hm []
 simp [fresh] at hno
 have lv : ∀ {v : V}, V.mens (young 3 []) [v] = false → K (.ret v) (Xum o n) → Xx 3 (K (.ret v)) [v] (Xum o n) := fun h1 h2 => ⟨[], h1, by simpa [young] using hno, by simpa [young] using h2⟩
 simp [X3b]
 refine ALoop.go (ι := Nat) (fun k => [(0, .d (.list 6 (l.map RSchema.enc))), (1, .fn 136 [] [.ptr 1 [], .ptr 2 []]), (7, .d (.int .i64 l.length)), (8, .d (.int .i64 k))]) (fun _ => Xum o n) (fun k => k ≤ l.length ∧ ∀ i (h : i < l.length), i < k → l[i].name ≠ n) (fun k => l.length - k) 0 ⟨Nat.zero_le _, fun i _ h => by omega⟩ (by simp) (by simp) ?_
 rintro k ⟨hk, hn⟩ R rn re rr rp
 by_cases hlt : k < l.length
 ·simp [Xhv, hlt, Xz5 hP]
  refine ⟨⟨by simp [RSchema.enc, D.sz, D.szs], by simp [RSchema.enc]⟩, X3h hP ?_⟩
  by_cases e : l[k].name = n
  ·simp [Xh0, e]
   refine rr _ _ ?_
   simp
   rw [V3 RSchema.name n l k hlt hn e] at h
   exact lv (by simp) h
  ·have e' : (l[k].name == n) = false := by simpa using e
   simp [Xh0, Xqd, e']
   refine rn [] (k + 1) _ _ ⟨by omega, fun i hi hj => ?_⟩ (by omega) (by simp [wr hlt hl]) (by simp [young]) (by simp [young]) (by simpa [young] using hno)
   rcases Nat.lt_or_ge i k with h1 | h1
   ·exact hn i hi h1
   ·have : i = k := by omega
    subst this; exact e
 ·have : k = l.length := by omega
  subst this
  simp [Xhv]
  refine re _ _ _ ?_
  simp
  rw [Z9 RSchema.name n l (fun i hi => hn i hi hi)] at h
  exact lv (by simp) h
theorem Xp5 {l : List RSchema} (hl : l.length ≤ 9223372036854775807) {n : B} {o : Ob} {K : Out → Objs → Prop} (h : K (.ret (X7 (Xq RSchema.name l n 0))) [(0, o)]) : ACall P 113 [.d (.list 6 (l.map RSchema.enc)), .fn 114 [] [], .d (.str n)] [(0, o)] K := by
 refine acall_lift hP mixed Xzp X1i TOk.nil fun _ hm => ?_
 have hno := hm []
 simp [fresh] at hno
 simp [X4k]
 refine X0b hP hl ?_
 simp [Xqb]
 unfold X7 at h
 constructor
 ·intro hi
  simp only [hi, if_true] at h
  exact ⟨[], by simp, by simpa [young] using hno, by simpa [young] using h⟩
 ·intro hi
  rw [if_neg (by omega)] at h
  exact ⟨[], by simp, by simpa [young] using hno, by simpa [young] using h⟩
theorem Xqr {y : RSrc} (hl : y.schemas.length ≤ 9223372036854775807) {n : B} {ob : Objs} {K : V → Prop} (h : K (X7 (Xq RSchema.name y.schemas n 0))) : PCall P 71 [.d y.enc, .d (.str n)] ob K := by
 refine pcall_lift hP mixed (ds := [y.enc, .str n]) X6a Ybp TOk.nil ?_
 simp [Ybs, RSrc.enc, Xe]
 refine Xp5 hP hl ?_
 unfold X7 at h ⊢
 split at h
 ·rename_i hi
  simp [hi]
  exact h
 ·rename_i hi
  simp [hi]
  exact h
end
end Go.Proofs.YtmapdjjigmkbfaaGreatDoor
/- Contracts: names.first of fields. Condition: the program is the seat's. -/
namespace Go.Proofs.YtmapdjjigmkbfaaGreatDoor
open Go Go.Ab Go.Lx Go.Sx
set_option maxRecDepth 100000
section
variable {P : Prg} (hP : P.p = Tryz.prog)
include hP
theorem Xxq : Xg P.p 153 = true := by rw [hP]; kernel_rfl
theorem Xzf : Xg P.p 167 = true := by rw [hP]; kernel_rfl
theorem Xzq {x : RField} {ob : Objs} {K : Out → Objs → Prop} (h : K (.ret (.d (.str x.name))) ob) : ACall P 153 [.d x.enc] ob K :=
 PCall.acall (by
  refine pcall_lift hP mixed (ds := [x.enc]) Xxt X2k TOk.nil ?_
  simp [X1j, RField.enc]
  exact h)
abbrev Xs1 (o : Ob) (n : B) : Objs := [(2, .box 9 (.d (.str n))), (1, .box 254 (.fn 153 [] [])), (0, o)]
theorem X4d {x : RField} {n : B} {o : Ob} {K : Out → Objs → Prop} (h : K (.ret (.d (.bool (x.name == n)))) (Xs1 o n)) : ACall P 167 [.d x.enc, .ptr 1 [], .ptr 2 []] (Xs1 o n) K := by
 refine acall_lift hP mixed Xyh X3t TOk.nil fun _ hm => ?_
 simp [X3e, Xxq hP]
 have hn := hm []
 simp [fresh] at hn
 refine ⟨by rw [D.size_shape]; simp [RField.enc, RType.enc, Xe, D.sz, D.szs], by simp [RField.enc], Xzq hP ?_, Xzq hP ?_⟩
 ·simp
  refine ⟨[], by simp, ?_, ?_⟩
  ·simp [young]; simpa [young] using hn
  ·simpa [young] using h
 ·simp
  refine ⟨[], by simp, ?_, ?_⟩
  ·simp [young]; simpa [young] using hn
  ·simpa [young] using h
theorem Xxw {l : List RField} (hl : l.length ≤ 9223372036854775807) {n : B} {o : Ob} {K : Out → Objs → Prop} (h : K (.ret (.d (.int .i64 (Xq RField.name l n 0)))) (Xs1 o n)) : ACall P 166 [.d (.list 11 (l.map RField.enc)), .fn 167 [] [.ptr 1 [], .ptr 2 []]] (Xs1 o n) K := by
 have wr : ∀ {k n : Nat}, k < n → n ≤ 9223372036854775807 → IntKind.i64.wrap ((k : Int) + 1) = (k : Int) + 1 := fun h1 h2 => IntWalk.i64_in _ (by omega)
 refine acall_lift hP mixed Xxs X10 TOk.nil fun _ hm => ?_
 have hno := hm []
 simp [fresh] at hno
 have lv : ∀ {v : V}, V.mens (young 3 []) [v] = false → K (.ret v) (Xs1 o n) → Xx 3 (K (.ret v)) [v] (Xs1 o n) := fun h1 h2 => ⟨[], h1, by simpa [young] using hno, by simpa [young] using h2⟩
 simp [X2z]
 refine ALoop.go (ι := Nat) (fun k => [(0, .d (.list 11 (l.map RField.enc))), (1, .fn 167 [] [.ptr 1 [], .ptr 2 []]), (7, .d (.int .i64 l.length)), (8, .d (.int .i64 k))]) (fun _ => Xs1 o n) (fun k => k ≤ l.length ∧ ∀ i (h : i < l.length), i < k → l[i].name ≠ n) (fun k => l.length - k) 0 ⟨Nat.zero_le _, fun i _ h => by omega⟩ (by simp) (by simp) ?_
 rintro k ⟨hk, hn⟩ R rn re rr rp
 by_cases hlt : k < l.length
 ·simp [Xh9, hlt, Xzf hP]
  refine ⟨⟨by simp [RField.enc, RType.enc, Xe, D.sz, D.szs], by simp [RField.enc]⟩, X4d hP ?_⟩
  by_cases e : l[k].name = n
  ·simp [Xhh, e]
   refine rr _ _ ?_
   simp
   rw [V3 RField.name n l k hlt hn e] at h
   exact lv (by simp) h
  ·have e' : (l[k].name == n) = false := by simpa using e
   simp [Xhh, Xp9, e']
   refine rn [] (k + 1) _ _ ⟨by omega, fun i hi hj => ?_⟩ (by omega) (by simp [wr hlt hl]) (by simp [young]) (by simp [young]) (by simpa [young] using hno)
   rcases Nat.lt_or_ge i k with h1 | h1
   ·exact hn i hi h1
   ·have : i = k := by omega
    subst this; exact e
 ·have : k = l.length := by omega
  subst this
  simp [Xh9]
  refine re _ _ _ ?_
  simp
  rw [Z9 RField.name n l (fun i hi => hn i hi hi)] at h
  exact lv (by simp) h
theorem Xqo {l : List RField} (hl : l.length ≤ 9223372036854775807) {n : B} {o : Ob} {K : Out → Objs → Prop} (h : K (.ret (X7 (Xq RField.name l n 0))) [(0, o)]) : ACall P 152 [.d (.list 11 (l.map RField.enc)), .fn 153 [] [], .d (.str n)] [(0, o)] K := by
 refine acall_lift hP mixed Xz6 X12 TOk.nil fun _ hm => ?_
 have hno := hm []
 simp [fresh] at hno
 simp [X2y]
 refine Xxw hP hl ?_
 simp [Xqf]
 unfold X7 at h
 constructor
 ·intro hi
  simp only [hi, if_true] at h
  exact ⟨[], by simp, by simpa [young] using hno, by simpa [young] using h⟩
 ·intro hi
  rw [if_neg (by omega)] at h
  exact ⟨[], by simp, by simpa [young] using hno, by simpa [young] using h⟩
theorem Xs6 {y : RSrc} (hs : ∀ x ∈ y.schemas, x.small) (hl : y.schemas.length ≤ 9223372036854775807) {k : Int} {n : B} {ob : Objs} {K : V → Prop} (h0 : (k < 0 ∨ (y.schemas.length : Int) ≤ k) → K (.tup [.d (.int .i64 0), .d (.bool false)])) (h : ∀ i (hi : i < y.schemas.length), k = i → K (X7 (Xq RField.name y.schemas[i].fields n 0))) : PCall P 137 [.d y.enc, .d (.int .i64 k), .d (.str n)] ob K := by
 refine pcall_lift hP mixed (ds := [y.enc, .int .i64 k, .str n]) Xzl X2c TOk.nil ?_
 by_cases hk : k < 0 ∨ (y.schemas.length : Int) ≤ k
 ·have hk' : k < 0 ∨ k ≥ (y.schemas.length : Int) := hk
  simp [X0c, RSrc.enc, Xe, hk]
  exact ⟨h0 hk, fun h1 h2 => by omega⟩
 ·obtain ⟨i, rfl, hi⟩ : ∃ i : Nat, k = i ∧ i < y.schemas.length := ⟨k.toNat, by omega, by omega⟩
  have hfl := (hs _ (List.getElem_mem hi)).fields
  have h := h i hi rfl
  simp [X0c, RSrc.enc, Xe, hi, RSchema.enc]
  refine ⟨fun hc => by omega, Xqo hP hfl ?_⟩
  unfold X7 at h ⊢
  split at h
  ·rename_i hi
   simp [hi]
   exact h
  ·rename_i hi
   simp [hi]
   exact h
end
end Go.Proofs.YtmapdjjigmkbfaaGreatDoor
/- Contract: whether a term is a number. Condition: the program is the seat's. -/
namespace Go.Sx
open Go Go.Ab Go.Lx
def RTerm.isNum (t : RTerm) : Bool := decide (t.name = []) && decide (t.path = []) && decide (t.var = -1) && decide (t.field = 0) && decide (0 ≤ t.n) && decide (t.n ≤ 1048576)
end Go.Sx
namespace Go.Proofs.YtmapdjjigmkbfaaGreatDoor
open Go Go.Ab Go.Lx Go.Sx
set_option maxRecDepth 100000
section
variable {P : Prg} (hP : P.p = Tryz.prog)
include hP
theorem Xjw (t : RTerm) {ob : Objs} {K : V → Prop} (h : K (.d (.bool t.isNum))) : PCall P 128 [.d t.enc] ob K := by
 refine pcall_lift hP mixed (ds := [t.enc]) X0p X3j TOk.nil ?_
 obtain ⟨n, p, v, f, m⟩ := t
 simp only [RTerm.isNum] at h
 by_cases h1 : n = []
 ·by_cases h2 : p = []
  ·by_cases h3 : v = -1
   ·by_cases h4 : f = 0
    ·by_cases h5 : 0 ≤ m
     ·by_cases h6 : m ≤ 1048576
      ·simp [Xf2, RTerm.enc, h1, h2, h3, h4, h5, h6] at h ⊢; exact h
      ·simp [Xf2, RTerm.enc, h1, h2, h3, h4, h5, h6] at h ⊢; exact h
     ·simp [Xf2, RTerm.enc, h1, h2, h3, h4, h5] at h ⊢; exact h
    ·simp [Xf2, RTerm.enc, h1, h2, h3, h4] at h ⊢; exact h
   ·simp [Xf2, RTerm.enc, h1, h2, h3] at h ⊢; exact h
  ·simp [Xf2, RTerm.enc, h1, h2] at h ⊢; exact h
 ·simp [Xf2, RTerm.enc, h1] at h ⊢; exact h
end
end Go.Proofs.YtmapdjjigmkbfaaGreatDoor
