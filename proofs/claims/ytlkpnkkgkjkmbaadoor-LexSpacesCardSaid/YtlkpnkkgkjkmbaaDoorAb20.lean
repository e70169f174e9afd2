/- Regions folded into expressions: the fold of a whole region, and that it keeps what is shown. Over any program; no condition. -/
import Derived.Test.YtlkpnkkgkjkmbaaDoorAb19
namespace Go.Ab
open Go

def pathE (σ : Sg) : Path → Path → Option (List (E × Bool))
  | _, [] => some []
  | dn, (g, b) :: r => match ent σ g with
    | some (q, e) => if q.isPrefixOf dn then (match pathE σ (dn ++ [(g, b)]) r with | some l => some ((e, b) :: l) | none => none) else none
    | none => none
def chk1 (σ : Sg) (f : E → E) (k : Nat) : Option It2 := match ent σ k with
  | some (p, e) => match pathE σ [] p with
    | some l => some (.chk l (f e))
    | none => none
  | none => none
def chks (σ : Sg) (f : E → E) : List Nat → Option (List It2)
  | [] => some []
  | k :: r => match chk1 σ f k, chks σ f r with
    | some c, some l => some (c :: l)
    | _, _ => none
def bw (e : E) : E := .ite e (.a (.bool true)) (.a (.bool true))
def delG (σ : Sg) (k : Nat) : Sg := σ.filter fun x => x.1 != k
def noMen (σ : Sg) (k : Nat) : Bool := σ.all fun x => match x.2 with
  | some (_, e) => !e.men k
  | none => true
def noRd (σ : Sg) : Bool := σ.all fun x => match x.2 with
  | some (_, e) => !e.rd
  | none => true
def mat1 (σ : Sg) (k : Nat) : Option (It2 × Sg) := match lookG σ k with
  | some (some (p, e)) => match pathE σ [] p with
    | some l => if noMen (delG σ k) k then some (.lt k l e, delG σ k) else none
    | none => none
  | _ => none
def mats : List Nat → Sg → Option (List It2 × Sg)
  | [], σ => some ([], σ)
  | k :: r, σ => match mat1 σ k with
    | some (i, σ') => match mats r σ' with
      | some (l, σ'') => some (i :: l, σ'')
      | none => none
    | none => none
def kill (lv : List Nat) : Sg → Sg
  | [] => []
  | (k, x) :: r => (if lv.contains k then (k, x) else (k, none)) :: kill lv r
def liveL : List It → List Nat
  | [] => []
  | .op _ i :: r => i.slots ++ liveL r
  | .gop g _ _ i :: r => g :: (i.slots ++ liveL r)
def needs (σ : Sg) (s : List Nat) (d : Option Nat) : List Nat := (σ.filter fun x => match x.2 with
  | some (_, e) => s.contains x.1 || e.rd || (match d with | some k => x.1 != k && e.men k | none => false)
  | none => false).map (·.1)
def It.d : It → Option Nat
  | .op d _ => d
  | .gop _ _ d _ => d
def It.i : It → I
  | .op _ i => i
  | .gop _ _ _ i => i
def It.path (σ : Sg) : It → Option (Path × List Nat)
  | .op _ _ => some ([], [])
  | .gop g b _ _ => match ent σ g with
    | some (q, _) => some (q ++ [(g, b)], [g])
    | none => none
def It.eff (l : List (E × Bool)) : It → It2
  | .op d i => .op d i
  | .gop _ _ d i => .gop l d i
def delO (σ : Sg) : Option Nat → Sg
  | some k => delG σ k
  | none => σ
def freeO (σ : Sg) (p : Path) : Option Nat → Bool
  | some k => noMen (delG σ k) k && gfree (delG σ k) k && noGuard k p
  | none => true
def keeps (σ : Sg) : List Nat → Option (List (Nat × E))
  | [] => some []
  | k :: r => match ent σ k, keeps σ r with
    | some ([], e), some l => some ((k, e) :: l)
    | _, _ => none
def addP (e : E) (k : Nat) (l : List Nat) : List Nat := if e.isA then l else k :: l

def liftR (fs keep pk : List Nat) : List It → Sg → List Nat → List Nat → Option (List It2 × List (Nat × E))
  | [], σ, pe, pg => match chks σ id (pe.filter fun k => !keep.contains k), chks σ bw pg, keeps σ keep with
    | some c1, some c2, some kp => some (c1 ++ c2, kp)
    | _, _, _ => none
  | it :: r, σ, pe, pg => match it.path σ with
    | none => none
    | some (p, gs) => match it.d, it.i.lift fs σ p with
      | some k, some e => if gfree (delG σ k) k && noGuard k p && !pe.contains k && !(gs ++ pg).contains k then
          liftR fs keep pk r ((k, some (p, e)) :: delG σ k) (addP e k (pe.filter fun j => !(it.i.cons σ p).contains j)) ((gs ++ pg).filter fun j => !(it.i.gcons σ p).contains j)
        else none
      | d, _ => match chks σ id pe, chks σ bw (gs ++ pg) with
        | some c1, some c2 => match mats (needs (kill (it.i.slots ++ (p.map (·.1) ++ (liveL r ++ keep))) σ) it.i.slots d) (kill (it.i.slots ++ (p.map (·.1) ++ (liveL r ++ keep))) σ) with
          | some (ms, σ2) => match pathE σ2 [] p with
            | some l => if (it.i.slots.all fun k => (lookG σ2 k).isNone) && freeO σ2 p d && noRd σ2 && (pk.all fun k => (lookG σ2 k).isNone) then
                match liftR fs keep pk r (delO σ2 d) [] [] with
                | some (t, kp) => some (c1 ++ (c2 ++ (ms ++ (it.eff l :: t))), kp)
                | none => none
              else none
            | none => none
          | none => none
        | _, _ => none

section
variable {P : Prg} {T : Tab} {σ : Sg} {sl sl0 : Slots} {ob : Objs} {p : Path} {K : Slots → Objs → Prop} {Pn : V → Slots → Objs → Prop}

theorem pathE_holds (hI : Inv T σ sl sl0 ob) : ∀ (r dn : Path) (l : List (E × Bool)), pathE σ dn r = some l → holdsS sl dn = true → holdsS sl r = holdsB T sl0 ob l
  | [], dn, l, h, _ => by simp only [pathE] at h; cases h; rfl
  | (g, b) :: r, dn, l, h, hd => by
    simp only [pathE] at h
    split at h
    · rename_i q e he
      split at h
      · rename_i hq
        split at h
        · rename_i l' hl
          cases h
          have hv := (hI g q e he).1 (holds_prefix hq hd)
          simp only [holdsS, holdsB, List.all_cons, hv]
          cases hb : isB b (e.val T sl0 ob) with
          | false => rfl
          | true =>
            have := pathE_holds hI r _ l' hl (by rw [holds_snoc, hd, hv, hb]; rfl)
            simpa [holdsS, holdsB] using this
        · cases h
      · cases h
    · cases h

theorem chks_sound (hI : Inv T σ sl sl0 ob) {f : E → E} : ∀ {ks : List Nat} {cs l : List It2}, chks σ f ks = some cs → rwp2 P T K Pn (cs ++ l) sl0 ob →
    (∀ k ∈ ks, ∀ p e, ent σ k = some (p, e) → holdsS sl p = true → (f e).ok T sl0 ob) ∧ rwp2 P T K Pn l sl0 ob
  | [], cs, l, h, hr => by simp only [chks] at h; cases h; exact ⟨fun _ h => (by cases h), hr⟩
  | k :: r, cs, l, h, hr => by
    simp only [chks] at h
    split at h
    · rename_i c l' hc hl
      cases h
      unfold chk1 at hc
      split at hc
      · rename_i p e he
        split at hc
        · rename_i lp hp
          cases hc
          simp only [List.cons_append, rwp2] at hr
          obtain ⟨h1, h2⟩ := chks_sound hI hl hr.2
          refine ⟨fun j hj q e' he' hq => ?_, h2⟩
          rcases List.mem_cons.mp hj with rfl | hj
          · rw [he] at he'; cases he'
            exact hr.1 (by rw [← pathE_holds hI _ _ _ hp rfl]; exact hq)
          · exact h1 j hj q e' he' hq
        · cases hc
      · cases hc
    · cases h

theorem lookG_del_eq : ∀ {σ : Sg} {k : Nat}, lookG (delG σ k) k = none
  | [], _ => rfl
  | (j, x) :: r, k => by
    have ih := lookG_del_eq (σ := r) (k := k)
    simp only [delG] at ih ⊢
    by_cases h : j = k
    · subst h; simp [ih]
    · simp [h, lookG, ih]
theorem lookG_del_ne {k j : Nat} (h : k ≠ j) : ∀ {σ : Sg}, lookG (delG σ k) j = lookG σ j
  | [] => rfl
  | (i, x) :: r => by
    have ih := lookG_del_ne h (σ := r)
    simp only [delG] at ih ⊢
    by_cases hi : i = k
    · subst hi; simp [ih, lookG, h]
    · simp [hi, lookG, ih]
theorem ent_del_eq {k : Nat} : ent (delG σ k) k = some ([], .a (.t k)) := by simp [ent, lookG_del_eq]
theorem ent_del_ne {k j : Nat} (h : k ≠ j) : ent (delG σ k) j = ent σ j := by simp [ent, lookG_del_ne h]
theorem noMen_look : ∀ {σ : Sg} {d k : Nat} {p : Path} {e : E}, noMen σ d = true → lookG σ k = some (some (p, e)) → e.men d = false
  | [], _, _, _, _, _, h => by simp [lookG] at h
  | (j, x) :: r, d, k, p, e, hg, h => by
    simp only [noMen, List.all_cons, Bool.and_eq_true] at hg
    simp only [lookG] at h
    split at h
    · cases h; simpa using hg.1
    · exact noMen_look (σ := r) hg.2 h
theorem noRd_look : ∀ {σ : Sg} {k : Nat} {p : Path} {e : E}, noRd σ = true → lookG σ k = some (some (p, e)) → e.rd = false
  | [], _, _, _, _, h => by simp [lookG] at h
  | (j, x) :: r, k, p, e, hg, h => by
    simp only [noRd, List.all_cons, Bool.and_eq_true] at hg
    simp only [lookG] at h
    split at h
    · cases h; simpa using hg.1
    · exact noRd_look (σ := r) hg.2 h
theorem noRd_ent {k : Nat} {e : E} (hg : noRd σ = true) (h : ent σ k = some (p, e)) : e.rd = false := by
  unfold ent at h
  split at h
  · cases h; rfl
  · rename_i x hx; subst h; exact noRd_look hg hx
theorem noMen_ent {d k : Nat} {e : E} (hg : noMen (delG σ d) d = true) (hd : d ≠ k) (h : ent σ k = some (p, e)) : e.men d = false := by
  rw [← ent_del_ne hd] at h
  unfold ent at h
  split at h
  · cases h; simp [E.men, A.men]; exact fun e => hd e.symm
  · rename_i x hx; subst h; exact noMen_look hg hx

theorem mats_sound : ∀ {ks : List Nat} {σ σ' : Sg} {sl0 : Slots} {ms l : List It2}, Inv T σ sl sl0 ob → mats ks σ = some (ms, σ') → rwp2 P T K Pn (ms ++ l) sl0 ob → ∃ sl0', Inv T σ' sl sl0' ob ∧ rwp2 P T K Pn l sl0' ob
  | [], σ, σ', sl0, ms, l, hI, h, hr => by simp only [mats] at h; cases h; exact ⟨sl0, hI, hr⟩
  | k :: r, σ, σ', sl0, ms, l, hI, h, hr => by
    simp only [mats] at h
    split at h
    · rename_i i σ1 h1
      split at h
      · rename_i l' σ2 h2
        cases h
        unfold mat1 at h1
        split at h1
        · rename_i p e he
          split at h1
          · rename_i lp hp
            split at h1
            · rename_i hm
              cases h1
              simp only [List.cons_append, rwp2] at hr
              refine mats_sound ?_ h2 hr.2
              have hk := hI k p e (by simp [ent, he])
              have hh := pathE_holds hI _ _ _ hp rfl
              intro j q e' he'
              by_cases hj : k = j
              · subst hj
                rw [ent_del_eq] at he'; cases he'
                simp only [holdsS, List.all_nil, E.val, A.ev, look, if_true]
                refine ⟨fun _ => ?_, fun h => (by cases h)⟩
                rw [← hh]
                cases hs : holdsS sl p with
                | true => rw [hk.1 hs]; rfl
                | false => rw [hk.2 hs]; rfl
              · rw [ent_del_ne hj] at he'
                rw [E.val_sl (noMen_ent hm hj he')]
                exact hI j q e' he'
            · cases h1
          · cases h1
        · cases h1
      · cases h
    · cases h

theorem kill_ent {lv : List Nat} : ∀ {σ : Sg} {k : Nat} {e : E}, ent (kill lv σ) k = some (p, e) → ent σ k = some (p, e)
  | [], _, _, h => h
  | (j, x) :: r, k, e, h => by
    by_cases hj : j = k
    · subst hj
      rw [ent_cons_eq]
      simp only [kill] at h
      split at h
      · rwa [ent_cons_eq] at h
      · rw [ent_cons_eq] at h; cases h
    · rw [ent_cons_ne hj]
      simp only [kill] at h
      refine kill_ent (lv := lv) (σ := r) ?_
      split at h
      · rwa [ent_cons_ne hj] at h
      · rwa [ent_cons_ne hj] at h
theorem Inv.kill {lv : List Nat} (hI : Inv T σ sl sl0 ob) : Inv T (kill lv σ) sl sl0 ob := fun k p e h => hI k p e (kill_ent h)

theorem Inv.fold' (hI : Inv T σ sl sl0 ob) {k : Nat} {e : E} (hg : gfree (delG σ k) k = true) (hp : noGuard k p = true) {v : V} (h1 : holdsS sl p = true → v = e.val T sl0 ob) (h2 : holdsS sl p = false → v = .undef) :
    Inv T ((k, some (p, e)) :: delG σ k) ((k, v) :: sl) sl0 ob := by
  intro j q e' he
  by_cases hj : k = j
  · subst hj
    rw [ent_cons_eq] at he; cases he
    rw [holds_put hp]
    simp only [look, if_true]
    exact ⟨h1, h2⟩
  · rw [ent_cons_ne hj] at he
    rw [holds_put (gfree_ent hg he)]
    rw [ent_del_ne hj] at he
    simp only [look, hj, if_false]
    exact hI j q e' he

/-- after an operation that may change objects -/
theorem Inv.eff (hI : Inv T σ sl sl0 ob) {d : Option Nat} (hf : freeO σ p d = true) (hr : noRd σ = true) {v : V} {ob' : Objs} : Inv T (delO σ d) (put sl d v) (put sl0 d v) ob' := by
  cases d with
  | none =>
    intro j q e he
    rw [E.val_ob (ob' := ob) (noRd_ent hr he)]
    exact hI j q e he
  | some k =>
    simp only [freeO, Bool.and_eq_true] at hf
    intro j q e he
    simp only [put, delO] at he ⊢
    by_cases hj : k = j
    · subst hj
      rw [ent_del_eq] at he; cases he
      simp [holdsS, E.val, A.ev, look]
    · have he' := he
      rw [holds_put (gfree_ent hf.1.2 he')]
      rw [ent_del_ne hj] at he
      rw [E.val_sl (noMen_ent hf.1.1 hj he), E.val_ob (ob' := ob) (noRd_ent hr he)]
      simp only [look, hj, if_false]
      exact hI j q e he
theorem keeps_sound (hI : Inv T σ sl sl0 ob) : ∀ {keep : List Nat} {kp : List (Nat × E)}, keeps σ keep = some kp → keepE T sl0 ob kp = keepS sl keep ∧ (keepOk T sl0 ob kp → ∀ k ∈ keep, ∀ p e, ent σ k = some (p, e) → e.ok T sl0 ob)
  | [], kp, h => by simp only [keeps] at h; cases h; exact ⟨rfl, fun _ _ h => (by cases h)⟩
  | k :: r, kp, h => by
    simp only [keeps] at h
    split at h
    · rename_i e l he hl
      cases h
      obtain ⟨h1, h2⟩ := keeps_sound hI hl
      refine ⟨by simp only [keepE, keepS, h1, (hI k [] e he).1 rfl], fun ho j hj p e' he' => ?_⟩
      rcases List.mem_cons.mp hj with rfl | hj
      · rw [he] at he'; cases he'; exact ho.1
      · exact h2 ho.2 j hj p e' he'
    · cases h

def PendOk (T : Tab) (σ : Sg) (pe pg : List Nat) (sl sl0 : Slots) (ob : Objs) : Prop :=
  (∀ k ∈ pe, ∀ p e, ent σ k = some (p, e) → holdsS sl p = true → e.ok T sl0 ob) ∧
  (∀ k ∈ pg, ∀ p e, ent σ k = some (p, e) → holdsS sl p = true → boolV (e.val T sl0 ob))

theorem pend_step {fs : List Nat} {i : I} {k : Nat} {e : E} {pe pg : List Nat} {v : V} (hI : Inv T σ sl sl0 ob) (he : i.lift fs σ p = some e) (c1 : gfree (delG σ k) k = true) (c2 : noGuard k p = true) (c3 : k ∉ pe) (c4 : k ∉ pg)
    (h : PendOk T ((k, some (p, e)) :: delG σ k) (addP e k (pe.filter fun j => !(i.cons σ p).contains j)) (pg.filter fun j => !(i.gcons σ p).contains j) ((k, v) :: sl) sl0 ob) :
    PendOk T σ pe pg sl sl0 ob ∧ (holdsS sl p = true → e.ok T sl0 ob) := by
  obtain ⟨a1, a2⟩ := h
  have hok : holdsS sl p = true → e.ok T sl0 ob := fun hh => by
    cases hA : e.isA with
    | true => cases e <;> simp [E.isA] at hA; trivial
    | false => exact a1 k (by simp [addP, hA]) p e ent_cons_eq (by rw [holds_put c2]; exact hh)
  refine ⟨⟨fun j hj q e' he' hq => ?_, fun j hj q e' he' hq => ?_⟩, hok⟩
  · by_cases hm : j ∈ i.cons σ p
    · exact I.cov hI he hm he' hq hok
    · have hkj : k ≠ j := fun e => c3 (e ▸ hj)
      refine a1 j ?_ q e' (by rw [ent_cons_ne hkj, ent_del_ne hkj]; exact he') ?_
      · simp only [addP]; split <;> simp [hj, hm]
      · rw [holds_put]; exact hq
        exact gfree_ent c1 (by rw [ent_del_ne hkj]; exact he')
  · by_cases hm : j ∈ i.gcons σ p
    · exact I.gcov he hm he' hq hok
    · have hkj : k ≠ j := fun e => c4 (e ▸ hj)
      refine a2 j ?_ q e' (by rw [ent_cons_ne hkj, ent_del_ne hkj]; exact he') ?_
      · simp only [List.mem_filter]; exact ⟨hj, by simp [hm]⟩
      · rw [holds_put]; exact hq
        exact gfree_ent c1 (by rw [ent_del_ne hkj]; exact he')

theorem pend_ok {fs keep pk : List Nat} : ∀ (its : List It) {σ : Sg} {pe pg : List Nat} {sl sl0 : Slots} {ob : Objs} {l : List It2} {kp : List (Nat × E)}, Inv T σ sl sl0 ob → liftR fs keep pk its σ pe pg = some (l, kp) →
    rwp2 P T (fun sl ob => keepOk T sl ob kp ∧ K (keepE T sl ob kp) ob) Pn l sl0 ob → PendOk T σ pe pg sl sl0 ob
  | [], σ, pe, pg, sl, sl0, ob, l, kp, hI, h, hr => by
    simp only [liftR] at h
    split at h
    · rename_i c1 c2 kp' h1 h2 h3
      cases h
      obtain ⟨a1, hr⟩ := chks_sound hI h1 hr
      obtain ⟨a2, hr⟩ := chks_sound hI (l := []) h2 (by simpa using hr)
      simp only [rwp2] at hr
      obtain ⟨_, a3⟩ := keeps_sound hI h3
      refine ⟨fun k hk p e he hp => ?_, fun k hk p e he hp => (a2 k hk p e he hp).2.1⟩
      by_cases hm : k ∈ keep
      · exact a3 hr.1 k hm p e he
      · exact a1 k (by simp [hk, hm]) p e he hp
    · cases h
  | it :: r, σ, pe, pg, sl, sl0, ob, l, kp, hI, h, hr => by
    simp only [liftR] at h
    split at h
    · cases h
    · rename_i p gs hp
      split at h
      · rename_i k e hd he
        split at h
        · rename_i hc
          simp only [Bool.and_eq_true, Bool.not_eq_true', List.contains_eq_mem, decide_eq_false_iff_not] at hc
          obtain ⟨⟨⟨c1, c2⟩, c3⟩, c4⟩ := hc
          have hI' := hI.fold' (e := e) c1 c2 (v := whenV (holdsS sl p) (e.val T sl0 ob)) (fun h => by rw [h]; rfl) (fun h => by rw [h]; rfl)
          obtain ⟨a, _⟩ := pend_step hI he c1 c2 c3 c4 (pend_ok r hI' h hr)
          exact ⟨a.1, fun j hj => a.2 j (List.mem_append.mpr (.inr hj))⟩
        · cases h
      · split at h
        · rename_i c1 c2 h1 h2
          split at h
          · split at h
            · split at h
              · split at h
                · cases h
                  obtain ⟨a1, hr⟩ := chks_sound hI h1 hr
                  obtain ⟨a2, hr⟩ := chks_sound hI h2 hr
                  exact ⟨a1, fun k hk p e he hp => (a2 k (List.mem_append.mpr (.inr hk)) p e he hp).2.1⟩
                · cases h
              · cases h
            · cases h
          · cases h
        · cases h
end
end Go.Ab
