/- Statements over folded regions. Over any program; no condition. -/
import Derived.Test.YtlkpnkkgkjkmbaaDoorAb20
namespace Go.Ab
open Go

theorem keepS_eq {sl sl' : Slots} : ∀ {ks : List Nat}, (∀ k ∈ ks, look sl k = look sl' k) → keepS sl ks = keepS sl' ks
  | [], _ => rfl
  | k :: r, h => by simp only [keepS]; rw [h k (by simp), keepS_eq (fun j hj => h j (by simp [hj]))]

theorem liftR_sound {P : Prg} {T : Tab} (hT : TOk P T) {fs keep pk : List Nat} {K K' : Slots → Objs → Prop} {Pn Pn' : V → Slots → Objs → Prop} (hK : ∀ s o, K s o → K' s o) (hP : ∀ v s o, Pn v s o → Pn' v s o) :
    ∀ (its : List It) {σ : Sg} {pe pg : List Nat} {sl sl0 : Slots} {ob : Objs} {l : List It2} {kp : List (Nat × E)}, Inv T σ sl sl0 ob → liftR fs keep pk its σ pe pg = some (l, kp) →
    rwp2 P T (fun sl ob => keepOk T sl ob kp ∧ K (keepE T sl ob kp) ob) (fun v sl ob => Pn v (keepS sl pk) ob) l sl0 ob → rwp P (fun sl ob => K' (keepS sl keep) ob) (fun v sl ob => Pn' v (keepS sl pk) ob) its sl ob
  | [], σ, pe, pg, sl, sl0, ob, l, kp, hI, h, hr => by
    simp only [liftR] at h
    split at h
    · rename_i c1 c2 kp' h1 h2 h3
      cases h
      obtain ⟨_, hr⟩ := chks_sound hI h1 hr
      obtain ⟨_, hr⟩ := chks_sound hI (l := []) h2 (by simpa using hr)
      simp only [rwp2] at hr
      simp only [rwp]
      rw [← (keeps_sound hI h3).1]
      exact hK _ _ hr.2
    · cases h
  | it :: r, σ, pe, pg, sl, sl0, ob, l, kp, hI, h, hr => by
    simp only [liftR] at h
    split at h
    · cases h
    · rename_i p gs hp
      split at h
      · rename_i k e hd he
        split at h
        · rename_i hc
          simp only [Bool.and_eq_true, Bool.not_eq_true', List.contains_eq_mem, decide_eq_false_iff_not] at hc
          obtain ⟨⟨⟨c1, c2⟩, c3⟩, c4⟩ := hc
          have go : ∀ v, (holdsS sl p = true → v = e.val T sl0 ob) → (holdsS sl p = false → v = .undef) → rwp P (fun sl ob => K' (keepS sl keep) ob) (fun v sl ob => Pn' v (keepS sl pk) ob) r ((k, v) :: sl) ob :=
            fun v h1 h2 => liftR_sound hT hK hP r (hI.fold' (e := e) c1 c2 h1 h2) h hr
          have hI' := hI.fold' (e := e) c1 c2 (v := whenV (holdsS sl p) (e.val T sl0 ob)) (fun h => by rw [h]; rfl) (fun h => by rw [h]; rfl)
          obtain ⟨a, hok⟩ := pend_step hI he c1 c2 c3 c4 (pend_ok r hI' h hr)
          cases it with
          | op d i =>
            simp only [It.d] at hd; subst hd
            simp only [It.path] at hp; cases hp
            simp only [rwp]
            exact I.lift_sound hT hI rfl he (hok rfl) (go _ (fun _ => rfl) (fun h => by cases h))
          | gop g b d i =>
            simp only [It.d] at hd; subst hd
            simp only [It.path] at hp
            split at hp
            · rename_i q eg hg
              cases hp
              simp only [rwp]
              cases hq : holdsS sl q with
              | false =>
                rw [(hI g q eg hg).2 hq]
                simp only [gdK]
                exact go _ (fun h => by rw [holds_snoc, hq] at h; cases h) (fun _ => rfl)
              | true =>
                have hv := (hI g q eg hg).1 hq
                have hb := a.2 g (by simp) q eg hg hq
                have hcg : ∀ j, look ((g, look sl g) :: sl) j = look sl j := fun j => by
                  simp only [look]; split
                  · rename_i e; rw [e]
                  · rfl
                have main : ∀ t, look sl g = .d (.bool t) → gdK g b sl (fun sl => I.wp P sl ob (fun v ob' => rwp P (fun sl ob => K' (keepS sl keep) ob) (fun v sl ob => Pn' v (keepS sl pk) ob) r (put sl (some k) v) ob') (fun v ob' => Pn' v (keepS sl pk) ob') i) (fun sl => rwp P (fun sl ob => K' (keepS sl keep) ob) (fun v sl ob => Pn' v (keepS sl pk) ob) r (put sl (some k) .undef) ob) (look sl g) := by
                  intro t ht
                  rw [ht]
                  simp only [gdK]
                  have hh : ∀ u, t = u → Inv T σ ((g, .d (.bool u)) :: sl) sl0 ob := fun u e => by
                    subst e; rw [← ht]; exact hI.congr hcg
                  have hs : ∀ u, t = u → ∀ p, holdsS ((g, .d (.bool u)) :: sl) p = holdsS sl p := fun u e p => by
                    subst e; rw [← ht]; simp only [holdsS, hcg]
                  refine ⟨fun e1 => ?_, fun e1 => ?_⟩
                  · have hp1 : holdsS sl (q ++ [(g, b)]) = true := by rw [holds_snoc, hq, ht, e1]; simp [isB]
                    refine I.lift_sound hT (hh _ e1) (by rw [hs _ e1]; exact hp1) he (hok hp1) ?_
                    refine liftR_sound hT hK hP r ((hh _ e1).fold' (e := e) c1 c2 (fun _ => rfl) (fun h => ?_)) h hr
                    rw [hs _ e1, hp1] at h; cases h
                  · have hp1 : holdsS sl (q ++ [(g, b)]) = false := by rw [holds_snoc, hq, ht, e1]; cases b <;> simp [isB]
                    refine liftR_sound hT hK hP r ((hh _ e1).fold' (e := e) c1 c2 (fun h => ?_) (fun _ => rfl)) h hr
                    rw [hs _ e1, hp1] at h; cases h
                rcases boolV_of hb with hb | hb
                · exact main true (by rw [hv, hb])
                · exact main false (by rw [hv, hb])
            · cases hp
        · cases h
      · rename_i d x hd hx
        split at h
        · rename_i c1 c2 h1 h2
          split at h
          · rename_i ms σ2 hm
            split at h
            · rename_i lp hl
              split at h
              · rename_i hc
                simp only [Bool.and_eq_true, List.all_eq_true, Option.isNone_iff_eq_none] at hc
                obtain ⟨⟨⟨d1, d2⟩, d3⟩, d4⟩ := hc
                split at h
                · rename_i t kp' ht
                  cases h
                  obtain ⟨_, hr⟩ := chks_sound hI h1 hr
                  obtain ⟨a2, hr⟩ := chks_sound hI h2 hr
                  obtain ⟨sl1, hI1, hr⟩ := mats_sound hI.kill hm hr
                  have hlook : ∀ {s}, Inv T σ2 s sl1 ob → ∀ k, lookG σ2 k = none → look s k = look sl1 k := fun hI k hk => (hI k [] (.a (.t k)) (by simp [ent, hk])).1 rfl
                  have hkeep : ∀ {s}, Inv T σ2 s sl1 ob → keepS s pk = keepS sl1 pk := fun {s} hI => by
                    exact keepS_eq fun k hk => hlook hI k (d4 k hk)
                  have step : ∀ {s}, Inv T σ2 s sl1 ob → it.i.wp P sl1 ob (fun v ob' => rwp2 P T (fun sl ob => keepOk T sl ob kp ∧ K (keepE T sl ob kp) ob) (fun v sl ob => Pn v (keepS sl pk) ob) t (put sl1 it.d v) ob') (fun v ob' => Pn v (keepS sl1 pk) ob') →
                      it.i.wp P s ob (fun v ob' => rwp P (fun sl ob => K' (keepS sl keep) ob) (fun v sl ob => Pn' v (keepS sl pk) ob) r (put s it.d v) ob') (fun v ob' => Pn' v (keepS s pk) ob') := fun {s} hI h => by
                    rw [I.wp_eq (sl' := sl1) (fun k hk => hlook hI k (d1 k hk))]
                    refine I.wp_mono (fun v b hv => ?_) (fun v b hv => ?_) h
                    · exact liftR_sound hT hK hP r (hI.eff d2 d3) ht hv
                    · rw [hkeep hI]; exact hP _ _ _ hv
                  cases it with
                  | op d' i =>
                    simp only [It.eff, rwp2] at hr
                    simp only [rwp]
                    exact step hI1 hr
                  | gop g b d' i =>
                    simp only [It.eff, rwp2] at hr
                    simp only [It.path] at hp
                    split at hp
                    · rename_i q eg hg
                      cases hp
                      have hh := pathE_holds hI1 _ _ _ hl rfl
                      have none' : ∀ {s}, Inv T σ2 s sl1 ob → holdsS sl (q ++ [(g, b)]) = false → rwp P (fun sl ob => K' (keepS sl keep) ob) (fun v sl ob => Pn' v (keepS sl pk) ob) r (put s d' .undef) ob := fun {s} hI hf =>
                        liftR_sound hT hK hP r (hI.eff d2 d3) ht (hr.2 (by rw [← hh]; exact hf))
                      simp only [rwp]
                      cases hq : holdsS sl q with
                      | false =>
                        rw [(hI g q eg hg).2 hq]
                        simp only [gdK]
                        exact none' hI1 (by rw [holds_snoc, hq]; rfl)
                      | true =>
                        have hv := (hI g q eg hg).1 hq
                        have hb := (a2 g (by simp) q eg hg hq).2.1
                        have hcg : ∀ j, look ((g, look sl g) :: sl) j = look sl j := fun j => by
                          simp only [look]; split
                          · rename_i e; rw [e]
                          · rfl
                        have main : ∀ u, look sl g = .d (.bool u) → gdK g b sl (fun sl => I.wp P sl ob (fun v ob' => rwp P (fun sl ob => K' (keepS sl keep) ob) (fun v sl ob => Pn' v (keepS sl pk) ob) r (put sl d' v) ob') (fun v ob' => Pn' v (keepS sl pk) ob') i) (fun sl => rwp P (fun sl ob => K' (keepS sl keep) ob) (fun v sl ob => Pn' v (keepS sl pk) ob) r (put sl d' .undef) ob) (look sl g) := by
                          intro u hu
                          rw [hu]
                          simp only [gdK]
                          have hh2 : ∀ w, u = w → Inv T σ2 ((g, .d (.bool w)) :: sl) sl1 ob := fun w e => by
                            subst e; rw [← hu]; exact hI1.congr hcg
                          refine ⟨fun e1 => ?_, fun e1 => ?_⟩
                          · exact step (hh2 _ e1) (hr.1 (by rw [← hh, holds_snoc, hq, hu, e1]; simp [isB]))
                          · exact none' (hh2 _ e1) (by rw [holds_snoc, hq, hu, e1]; cases b <;> simp [isB])
                        rcases boolV_of hb with hb | hb
                        · exact main true (by rw [hv, hb])
                        · exact main false (by rw [hv, hb])
                    · cases hp
                · cases h
              · cases h
            · cases h
          · cases h
        · cases h

inductive S2 where
  | rg (l : List It2) (keep : List (Nat × E)) (pk : List Nat)
  | seq (a b : S2)
  | skip
  | cond (c : A) (a b : S2)
  | block (n : Nat) (a : S2)
  | loop (keep : List Nat) (a : S2)
  | exit (n : Nat)
  | ret

def cwp2 (P : Prg) (T : Tab) : S2 → Post → Slots → Objs → Prop
  | .rg l keep pk, Q, sl, ob => rwp2 P T (fun sl ob => keepOk T sl ob keep ∧ Q .normal (keepE T sl ob keep) ob) (fun v sl ob => Q (.panic v) (keepS sl pk) ob) l sl ob
  | .seq a b, Q, sl, ob => cwp2 P T a (thenK (cwp2 P T b Q) Q) sl ob
  | .skip, Q, sl, ob => Q .normal sl ob
  | .cond c a b, Q, sl, ob => condK (cwp2 P T a Q sl ob) (cwp2 P T b Q sl ob) (c.ev sl)
  | .block n a, Q, sl, ob => cwp2 P T a (blockK n Q) sl ob
  | .loop keep a, Q, sl, ob => ALoop keep (cwp2 P T a) Q sl ob
  | .exit n, Q, sl, ob => Q (.exit n) sl ob
  | .ret, Q, sl, ob => Q .ret sl ob

def S.lift (fs : List Nat) : S → Option S2
  | .rg _ l keep pk => match liftR fs keep pk l [] [] [] with
    | some (l, kp) => some (.rg l kp pk)
    | none => none
  | .seq a b => match a.lift fs, b.lift fs with
    | some a, some b => some (.seq a b)
    | _, _ => none
  | .skip => some .skip
  | .cond c a b => match a.lift fs, b.lift fs with
    | some a, some b => some (.cond c a b)
    | _, _ => none
  | .block n a => match a.lift fs with
    | some a => some (.block n a)
    | none => none
  | .loop keep a => match a.lift fs with
    | some a => some (.loop keep a)
    | none => none
  | .exit n => some (.exit n)
  | .ret => some .ret

theorem S.lift_sound {P : Prg} {T : Tab} (hT : TOk P T) {fs : List Nat} : ∀ (s : S) {s2 : S2} {Q Q' : Post} {sl : Slots} {ob : Objs}, s.lift fs = some s2 → (∀ e sl ob, Q e sl ob → Q' e sl ob) → cwp2 P T s2 Q sl ob → cwp P s Q' sl ob
  | .rg o l keep pk, s2, Q, Q', sl, ob, h, hQ, hc => by
    simp only [S.lift] at h
    split at h
    · rename_i l' kp hl
      cases h
      simp only [cwp2] at hc
      simp only [cwp]
      exact liftR_sound hT (K := fun sl ob => Q .normal sl ob) (Pn := fun v sl ob => Q (.panic v) sl ob) (fun _ _ h => hQ _ _ _ h) (fun _ _ _ h => hQ _ _ _ h) l
        (fun k p e h => by simp [ent, lookG] at h; obtain ⟨rfl, rfl⟩ := h; exact ⟨fun _ => rfl, fun h => by cases h⟩) hl hc
    · cases h
  | .seq a b, s2, Q, Q', sl, ob, h, hQ, hc => by
    simp only [S.lift] at h
    split at h
    · rename_i a' b' ha hb
      cases h
      simp only [cwp2] at hc
      simp only [cwp]
      refine S.lift_sound hT a ha (fun e sl ob h => ?_) hc
      cases e with
      | normal => exact S.lift_sound hT b hb hQ h
      | _ => exact hQ _ _ _ h
    · cases h
  | .skip, s2, Q, Q', sl, ob, h, hQ, hc => by simp only [S.lift] at h; cases h; exact hQ _ _ _ hc
  | .cond c a b, s2, Q, Q', sl, ob, h, hQ, hc => by
    simp only [S.lift] at h
    split at h
    · rename_i a' b' ha hb
      cases h
      simp only [cwp2] at hc
      simp only [cwp]
      generalize c.ev sl = v at hc ⊢
      unfold condK at hc; split at hc
      · exact ⟨fun e => S.lift_sound hT a ha hQ (hc.1 e), fun e => S.lift_sound hT b hb hQ (hc.2 e)⟩
      · exact hc.elim
    · cases h
  | .block n a, s2, Q, Q', sl, ob, h, hQ, hc => by
    simp only [S.lift] at h
    split at h
    · rename_i a' ha
      cases h
      simp only [cwp2] at hc
      simp only [cwp]
      refine S.lift_sound hT a ha (fun e sl ob h => ?_) hc
      cases e with
      | exit m =>
        simp only [blockK] at h ⊢
        split
        · rename_i e; rw [if_pos e] at h; exact hQ _ _ _ h
        · rename_i e; rw [if_neg e] at h; exact hQ _ _ _ h
      | _ => exact hQ _ _ _ h
    · cases h
  | .loop keep a, s2, Q, Q', sl, ob, h, hQ, hc => by
    simp only [S.lift] at h
    split at h
    · rename_i a' ha
      cases h
      simp only [cwp2] at hc
      simp only [cwp]
      obtain ⟨ι, S, O, I, μ, i0, h1, h2, h3, h4⟩ := hc.run
      refine ⟨⟨ι, S, O, I, μ, i0, h1, h2, h3, fun i hi => S.lift_sound hT a ha (fun e sl ob h => ?_) (h4 i hi)⟩⟩
      cases e with
      | normal => exact h
      | _ => exact hQ _ _ _ h
    · cases h
  | .exit n, s2, Q, Q', sl, ob, h, hQ, hc => by simp only [S.lift] at h; cases h; exact hQ _ _ _ hc
  | .ret, s2, Q, Q', sl, ob, h, hQ, hc => by simp only [S.lift] at h; cases h; exact hQ _ _ _ hc
end Go.Ab
