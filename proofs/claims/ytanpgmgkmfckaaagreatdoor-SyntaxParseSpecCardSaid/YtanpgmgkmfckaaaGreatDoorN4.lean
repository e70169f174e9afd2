/- Texts of this claim joined by a program, part 4 of 9; the last is: The abstract statements that stand for the code of these functions, written by a program from the translation; that they do is checked by the kernel. No condition. -/
import Derived.Test.YtanpgmgkmfckaaaGreatDoorN3
import Derived.IntWalk
import Derived.Defers
import Derived.Recover
import Derived.Test.YtanpgmgkmfckaaaGreatDoorProg
import Derived.KernelRfl
set_option linter.unusedSimpArgs false
set_option linter.unusedVariables false
set_option linter.unusedSectionVars false
set_option linter.defProp false
/- Regions folded into expressions: the fold of a whole region, and that it Xhq what is shown. Over any program; no condition. -/
namespace Go.Ab
open Go

def Xk8 (σ : Sg) : Uc → Uc → Option (List (E × Bool))
 | _, [] => some []
 | dn, (g, b) :: r => match ent σ g with
  | some (q, e) => if q.isPrefixOf dn then (match Xk8 σ (dn ++ [(g, b)]) r with | some l => some ((e, b) :: l) | none => none) else none
  | none => none
def Yko (σ : Sg) (f : E → E) (k : Nat) : Option It2 := match ent σ k with
 | some (p, e) => match Xk8 σ [] p with
  | some l => some (.chk l (f e))
  | none => none
 | none => none
def chks (σ : Sg) (f : E → E) : List Nat → Option (List It2)
 | [] => some []
 | k :: r => match Yko σ f k, chks σ f r with
  | some c, some l => some (c :: l)
  | _, _ => none
def bw (e : E) : E := .ite e (.a (.bool true)) (.a (.bool true))
def Xgr (σ : Sg) (k : Nat) : Sg := σ.filter fun x => x.1 != k
def noMen (σ : Sg) (k : Nat) : Bool := σ.all fun x => match x.2 with
 | some (_, e) => !e.men k
 | none => true
def X67 (σ : Sg) : Bool := σ.all fun x => match x.2 with
 | some (_, e) => !e.rd
 | none => true
def Ylu (σ : Sg) (k : Nat) : Option (It2 × Sg) := match Wa σ k with
 | some (some (p, e)) => match Xk8 σ [] p with
  | some l => if noMen (Xgr σ k) k then some (.lt k l e, Xgr σ k) else none
  | none => none
 | _ => none
def X78 : List Nat → Sg → Option (List It2 × Sg)
 | [], σ => some ([], σ)
 | k :: r, σ => match Ylu σ k with
  | some (i, σ') => match X78 r σ' with
   | some (l, σ'') => some (i :: l, σ'')
   | none => none
  | none => none
def kill (lv : List Nat) : Sg → Sg
 | [] => []
 | (k, x) :: r => (if lv.contains k then (k, x) else (k, none)) :: kill lv r
def Xxq : List It → List Nat
 | [] => []
 | .op _ i :: r => i.slots ++ Xxq r
 | .gop g _ _ i :: r => g :: (i.slots ++ Xxq r)
def Ye8 (σ : Sg) (s : List Nat) (d : Option Nat) : List Nat := (σ.filter fun x => match x.2 with
 | some (_, e) => s.contains x.1 || e.rd || (match d with | some k => x.1 != k && e.men k | none => false)
 | none => false).map (·.1)
def It.d : It → Option Nat
 | .op d _ => d
 | .gop _ _ d _ => d
def It.i : It → I
 | .op _ i => i
 | .gop _ _ _ i => i
def It.path (σ : Sg) : It → Option (Uc × List Nat)
 | .op _ _ => some ([], [])
 | .gop g b _ _ => match ent σ g with
  | some (q, _) => some (q ++ [(g, b)], [g])
  | none => none
def It.eff (l : List (E × Bool)) : It → It2
 | .op d i => .op d i
 | .gop _ _ d i => .gop l d i
def Yfl (σ : Sg) : Option Nat → Sg
 | some k => Xgr σ k
 | none => σ
def X4m (σ : Sg) (p : Uc) : Option Nat → Bool
 | some k => noMen (Xgr σ k) k && Xmk (Xgr σ k) k && Vu k p
 | none => true
def Xhq (σ : Sg) : List Nat → Option (List (Nat × E))
 | [] => some []
 | k :: r => match ent σ k, Xhq σ r with
  | some ([], e), some l => some ((k, e) :: l)
  | _, _ => none
def Ycm (e : E) (k : Nat) (l : List Nat) : List Nat := if e.isA then l else k :: l

def Jy (fs keep pk : List Nat) : List It → Sg → List Nat → List Nat → Option (List It2 × List (Nat × E))
 | [], σ, pe, pg => match chks σ id (pe.filter fun k => !keep.contains k), chks σ bw pg, Xhq σ keep with
  | some c1, some c2, some kp => some (c1 ++ c2, kp)
  | _, _, _ => none
 | it :: r, σ, pe, pg => match it.path σ with
  | none => none
  | some (p, gs) => match it.d, it.i.lift fs σ p with
   | some k, some e => if Xmk (Xgr σ k) k && Vu k p && !pe.contains k && !(gs ++ pg).contains k then
     Jy fs keep pk r ((k, some (p, e)) :: Xgr σ k) (Ycm e k (pe.filter fun j => !(it.i.cons σ p).contains j)) ((gs ++ pg).filter fun j => !(it.i.gcons σ p).contains j)
    else none
   | d, _ => match chks σ id pe, chks σ bw (gs ++ pg) with
    | some c1, some c2 => match X78 (Ye8 (kill (it.i.slots ++ (p.map (·.1) ++ (Xxq r ++ keep))) σ) it.i.slots d) (kill (it.i.slots ++ (p.map (·.1) ++ (Xxq r ++ keep))) σ) with
     | some (ms, σ2) => match Xk8 σ2 [] p with
      | some l => if (it.i.slots.all fun k => (Wa σ2 k).isNone) && X4m σ2 p d && X67 σ2 && (pk.all fun k => (Wa σ2 k).isNone) then
        match Jy fs keep pk r (Yfl σ2 d) [] [] with
        | some (t, kp) => some (c1 ++ (c2 ++ (ms ++ (it.eff l :: t))), kp)
        | none => none
       else none
      | none => none
     | none => none
    | _, _ => none

section
variable {P : Prg} {T : Tab} {σ : Sg} {sl sl0 : Xc} {ob : Objs} {p : Uc} {K : Xc → Objs → Prop} {Pn : V → Xc → Objs → Prop}

theorem Vn (hI : Inv T σ sl sl0 ob) : ∀ (r dn : Uc) (l : List (E × Bool)), Xk8 σ dn r = some l → Xt sl dn = true → Xt sl r = Zl T sl0 ob l
 | [], dn, l, h, _ => by simp only [Xk8] at h; cases h; rfl
 | (g, b) :: r, dn, l, h, hd => by
  simp only [Xk8] at h
  split at h
  ·rename_i q e he
   split at h
   ·rename_i hq
    split at h
    ·rename_i l' hl
     cases h
     have hv := (hI g q e he).1 (Xbg hq hd)
     simp only [Xt, Zl, List.all_cons, hv]
     cases hb : isB b (e.val T sl0 ob) with
     | false => rfl
     | true =>
      have := Vn hI r _ l' hl (by rw [Yy, hd, hv, hb]; rfl)
      simpa [Xt, Zl] using this
    ·cases h
   ·cases h
  ·cases h

theorem Y1 (hI : Inv T σ sl sl0 ob) {f : E → E} : ∀ {ks : List Nat} {cs l : List It2}, chks σ f ks = some cs → Vk P T K Pn (cs ++ l) sl0 ob →
  (∀ k ∈ ks, ∀ p e, ent σ k = some (p, e) → Xt sl p = true → (f e).ok T sl0 ob) ∧ Vk P T K Pn l sl0 ob
 | [], cs, l, h, hr => by simp only [chks] at h; cases h; exact ⟨fun _ h => (by cases h), hr⟩
 | k :: r, cs, l, h, hr => by
  simp only [chks] at h
  split at h
  ·rename_i c l' hc hl
   cases h
   unfold Yko at hc
   split at hc
   ·rename_i p e he
    split at hc
    ·rename_i lp hp
     cases hc
     simp only [List.cons_append, Vk] at hr
     obtain ⟨h1, h2⟩ := Y1 hI hl hr.2
     refine ⟨fun j hj q e' he' hq => ?_, h2⟩
     rcases List.mem_cons.mp hj with rfl | hj
     ·rw [he] at he'; cases he'
      exact hr.1 (by rw [← Vn hI _ _ _ hp rfl]; exact hq)
     ·exact h1 j hj q e' he' hq
    ·cases hc
   ·cases hc
  ·cases h

theorem Xbd : ∀ {σ : Sg} {k : Nat}, Wa (Xgr σ k) k = none
 | [], _ => rfl
 | (j, x) :: r, k => by
  have ih := Xbd (σ := r) (k := k)
  simp only [Xgr] at ih ⊢
  by_cases h : j = k
  ·subst h; simp [ih]
  ·simp [h, Wa, ih]
theorem Xbe {k j : Nat} (h : k ≠ j) : ∀ {σ : Sg}, Wa (Xgr σ k) j = Wa σ j
 | [] => rfl
 | (i, x) :: r => by
  have ih := Xbe h (σ := r)
  simp only [Xgr] at ih ⊢
  by_cases hi : i = k
  ·subst hi; simp [ih, Wa, h]
  ·simp [hi, Wa, ih]
theorem Xd6 {k : Nat} : ent (Xgr σ k) k = some ([], .a (.t k)) := by simp [ent, Xbd]
theorem Zc {k j : Nat} (h : k ≠ j) : ent (Xgr σ k) j = ent σ j := by simp [ent, Xbe h]
theorem Xd9 : ∀ {σ : Sg} {d k : Nat} {p : Uc} {e : E}, noMen σ d = true → Wa σ k = some (some (p, e)) → e.men d = false
 | [], _, _, _, _, _, h => by simp [Wa] at h
 | (j, x) :: r, d, k, p, e, hg, h => by
  simp only [noMen, List.all_cons, Bool.and_eq_true] at hg
  simp only [Wa] at h
  split at h
  ·cases h; simpa using hg.1
  ·exact Xd9 (σ := r) hg.2 h
theorem Xh9 : ∀ {σ : Sg} {k : Nat} {p : Uc} {e : E}, X67 σ = true → Wa σ k = some (some (p, e)) → e.rd = false
 | [], _, _, _, _, h => by simp [Wa] at h
 | (j, x) :: r, k, p, e, hg, h => by
  simp only [X67, List.all_cons, Bool.and_eq_true] at hg
  simp only [Wa] at h
  split at h
  ·cases h; simpa using hg.1
  ·exact Xh9 (σ := r) hg.2 h
theorem Xn5 {k : Nat} {e : E} (hg : X67 σ = true) (h : ent σ k = some (p, e)) : e.rd = false := by
 unfold ent at h
 split at h
 ·cases h; rfl
 ·rename_i x hx; subst h; exact Xh9 hg hx
theorem Xgw {d k : Nat} {e : E} (hg : noMen (Xgr σ d) d = true) (hd : d ≠ k) (h : ent σ k = some (p, e)) : e.men d = false := by
 rw [← Zc hd] at h
 unfold ent at h
 split at h
 ·cases h; simp [E.men, A.men]; exact fun e => hd e.symm
 ·rename_i x hx; subst h; exact Xd9 hg hx

theorem Xeh : ∀ {ks : List Nat} {σ σ' : Sg} {sl0 : Xc} {ms l : List It2}, Inv T σ sl sl0 ob → X78 ks σ = some (ms, σ') → Vk P T K Pn (ms ++ l) sl0 ob → ∃ sl0', Inv T σ' sl sl0' ob ∧ Vk P T K Pn l sl0' ob
 | [], σ, σ', sl0, ms, l, hI, h, hr => by simp only [X78] at h; cases h; exact ⟨sl0, hI, hr⟩
 | k :: r, σ, σ', sl0, ms, l, hI, h, hr => by
  simp only [X78] at h
  split at h
  ·rename_i i σ1 h1
   split at h
   ·rename_i l' σ2 h2
    cases h
    unfold Ylu at h1
    split at h1
    ·rename_i p e he
     split at h1
     ·rename_i lp hp
      split at h1
      ·rename_i hm
       cases h1
       simp only [List.cons_append, Vk] at hr
       refine Xeh ?_ h2 hr.2
       have hk := hI k p e (by simp [ent, he])
       have hh := Vn hI _ _ _ hp rfl
       intro j q e' he'
       by_cases hj : k = j
       ·subst hj
        rw [Xd6] at he'; cases he'
        simp only [Xt, List.all_nil, E.val, A.ev, look, if_true]
        refine ⟨fun _ => ?_, fun h => (by cases h)⟩
        rw [← hh]
        cases hs : Xt sl p with
        | true => rw [hk.1 hs]; rfl
        | false => rw [hk.2 hs]; rfl
       ·rw [Zc hj] at he'
        rw [E.val_sl (Xgw hm hj he')]
        exact hI j q e' he'
      ·cases h1
     ·cases h1
    ·cases h1
   ·cases h
  ·cases h

theorem Xni {lv : List Nat} : ∀ {σ : Sg} {k : Nat} {e : E}, ent (kill lv σ) k = some (p, e) → ent σ k = some (p, e)
 | [], _, _, h => h
 | (j, x) :: r, k, e, h => by
  by_cases hj : j = k
  ·subst hj
   rw [Wp]
   simp only [kill] at h
   split at h
   ·rwa [Wp] at h
   ·rw [Wp] at h; cases h
  ·rw [Zy hj]
   simp only [kill] at h
   refine Xni (lv := lv) (σ := r) ?_
   split at h
   ·rwa [Zy hj] at h
   ·rwa [Zy hj] at h
theorem Inv.kill {lv : List Nat} (hI : Inv T σ sl sl0 ob) : Inv T (kill lv σ) sl sl0 ob := fun k p e h => hI k p e (Xni h)

theorem Inv.fold' (hI : Inv T σ sl sl0 ob) {k : Nat} {e : E} (hg : Xmk (Xgr σ k) k = true) (hp : Vu k p = true) {v : V} (h1 : Xt sl p = true → v = e.val T sl0 ob) (h2 : Xt sl p = false → v = .undef) :
  Inv T ((k, some (p, e)) :: Xgr σ k) ((k, v) :: sl) sl0 ob := by
 intro j q e' he
 by_cases hj : k = j
 ·subst hj
  rw [Wp] at he; cases he
  rw [Vf hp]
  simp only [look, if_true]
  exact ⟨h1, h2⟩
 ·rw [Zy hj] at he
  rw [Vf (Q4 hg he)]
  rw [Zc hj] at he
  simp only [look, hj, if_false]
  exact hI j q e' he

theorem Inv.eff (hI : Inv T σ sl sl0 ob) {d : Option Nat} (hf : X4m σ p d = true) (hr : X67 σ = true) {v : V} {ob' : Objs} : Inv T (Yfl σ d) (put sl d v) (put sl0 d v) ob' := by
 cases d with
 | none =>
  intro j q e he
  rw [E.val_ob (ob' := ob) (Xn5 hr he)]
  exact hI j q e he
 | some k =>
  simp only [X4m, Bool.and_eq_true] at hf
  intro j q e he
  simp only [put, Yfl] at he ⊢
  by_cases hj : k = j
  ·subst hj
   rw [Xd6] at he; cases he
   simp [Xt, E.val, A.ev, look]
  ·have he' := he
   rw [Vf (Q4 hf.1.2 he')]
   rw [Zc hj] at he
   rw [E.val_sl (Xgw hf.1.1 hj he), E.val_ob (ob' := ob) (Xn5 hr he)]
   simp only [look, hj, if_false]
   exact hI j q e he
theorem Qt (hI : Inv T σ sl sl0 ob) : ∀ {keep : List Nat} {kp : List (Nat × E)}, Xhq σ keep = some kp → V9 T sl0 ob kp = Xi sl keep ∧ (Wv T sl0 ob kp → ∀ k ∈ keep, ∀ p e, ent σ k = some (p, e) → e.ok T sl0 ob)
 | [], kp, h => by simp only [Xhq] at h; cases h; exact ⟨rfl, fun _ _ h => (by cases h)⟩
 | k :: r, kp, h => by
  simp only [Xhq] at h
  split at h
  ·rename_i e l he hl
   cases h
   obtain ⟨h1, h2⟩ := Qt hI hl
   refine ⟨by simp only [V9, Xi, h1, (hI k [] e he).1 rfl], fun ho j hj p e' he' => ?_⟩
   rcases List.mem_cons.mp hj with rfl | hj
   ·rw [he] at he'; cases he'; exact ho.1
   ·exact h2 ho.2 j hj p e' he'
  ·cases h

def Xwl (T : Tab) (σ : Sg) (pe pg : List Nat) (sl sl0 : Xc) (ob : Objs) : Prop :=
 (∀ k ∈ pe, ∀ p e, ent σ k = some (p, e) → Xt sl p = true → e.ok T sl0 ob) ∧
 (∀ k ∈ pg, ∀ p e, ent σ k = some (p, e) → Xt sl p = true → Xcd (e.val T sl0 ob))

theorem Xhk {fs : List Nat} {i : I} {k : Nat} {e : E} {pe pg : List Nat} {v : V} (hI : Inv T σ sl sl0 ob) (he : i.lift fs σ p = some e) (c1 : Xmk (Xgr σ k) k = true) (c2 : Vu k p = true) (c3 : k ∉ pe) (c4 : k ∉ pg)
  (h : Xwl T ((k, some (p, e)) :: Xgr σ k) (Ycm e k (pe.filter fun j => !(i.cons σ p).contains j)) (pg.filter fun j => !(i.gcons σ p).contains j) ((k, v) :: sl) sl0 ob) :
  Xwl T σ pe pg sl sl0 ob ∧ (Xt sl p = true → e.ok T sl0 ob) := by
 obtain ⟨a1, a2⟩ := h
 have hok : Xt sl p = true → e.ok T sl0 ob := fun hh => by
  cases hA : e.isA with
  | true => cases e <;> simp [E.isA] at hA; trivial
  | false => exact a1 k (by simp [Ycm, hA]) p e Wp (by rw [Vf c2]; exact hh)
 refine ⟨⟨fun j hj q e' he' hq => ?_, fun j hj q e' he' hq => ?_⟩, hok⟩
 ·by_cases hm : j ∈ i.cons σ p
  ·exact I.cov hI he hm he' hq hok
  ·have hkj : k ≠ j := fun e => c3 (e ▸ hj)
   refine a1 j ?_ q e' (by rw [Zy hkj, Zc hkj]; exact he') ?_
   ·simp only [Ycm]; split <;> simp [hj, hm]
   ·rw [Vf]; exact hq
    exact Q4 c1 (by rw [Zc hkj]; exact he')
 ·by_cases hm : j ∈ i.gcons σ p
  ·exact I.gcov he hm he' hq hok
  ·have hkj : k ≠ j := fun e => c4 (e ▸ hj)
   refine a2 j ?_ q e' (by rw [Zy hkj, Zc hkj]; exact he') ?_
   ·simp only [List.mem_filter]; exact ⟨hj, by simp [hm]⟩
   ·rw [Vf]; exact hq
    exact Q4 c1 (by rw [Zc hkj]; exact he')

theorem Xvx {fs keep pk : List Nat} : ∀ (its : List It) {σ : Sg} {pe pg : List Nat} {sl sl0 : Xc} {ob : Objs} {l : List It2} {kp : List (Nat × E)}, Inv T σ sl sl0 ob → Jy fs keep pk its σ pe pg = some (l, kp) →
  Vk P T (fun sl ob => Wv T sl ob kp ∧ K (V9 T sl ob kp) ob) Pn l sl0 ob → Xwl T σ pe pg sl sl0 ob
 | [], σ, pe, pg, sl, sl0, ob, l, kp, hI, h, hr => by
  simp only [Jy] at h
  split at h
  ·rename_i c1 c2 kp' h1 h2 h3
   cases h
   obtain ⟨a1, hr⟩ := Y1 hI h1 hr
   obtain ⟨a2, hr⟩ := Y1 hI (l := []) h2 (by simpa using hr)
   simp only [Vk] at hr
   obtain ⟨_, a3⟩ := Qt hI h3
   refine ⟨fun k hk p e he hp => ?_, fun k hk p e he hp => (a2 k hk p e he hp).2.1⟩
   by_cases hm : k ∈ keep
   ·exact a3 hr.1 k hm p e he
   ·exact a1 k (by simp [hk, hm]) p e he hp
  ·cases h
 | it :: r, σ, pe, pg, sl, sl0, ob, l, kp, hI, h, hr => by
  simp only [Jy] at h
  split at h
  ·cases h
  ·rename_i p gs hp
   split at h
   ·rename_i k e hd he
    split at h
    ·rename_i hc
     simp only [Bool.and_eq_true, Bool.not_eq_true', List.contains_eq_mem, decide_eq_false_iff_not] at hc
     obtain ⟨⟨⟨c1, c2⟩, c3⟩, c4⟩ := hc
     have hI' := hI.fold' (e := e) c1 c2 (v := Xhi (Xt sl p) (e.val T sl0 ob)) (fun h => by rw [h]; rfl) (fun h => by rw [h]; rfl)
     obtain ⟨a, _⟩ := Xhk hI he c1 c2 c3 c4 (Xvx r hI' h hr)
     exact ⟨a.1, fun j hj => a.2 j (List.mem_append.mpr (.inr hj))⟩
    ·cases h
   ·split at h
    ·rename_i c1 c2 h1 h2
     split at h
     ·split at h
      ·split at h
       ·split at h
        ·cases h
         obtain ⟨a1, hr⟩ := Y1 hI h1 hr
         obtain ⟨a2, hr⟩ := Y1 hI h2 hr
         exact ⟨a1, fun k hk p e he hp => (a2 k (List.mem_append.mpr (.inr hk)) p e he hp).2.1⟩
        ·cases h
       ·cases h
      ·cases h
     ·cases h
    ·cases h
end
end Go.Ab
/- Statements over folded regions. Over any program; no condition. -/
namespace Go.Ab
open Go

theorem Xm8 {sl sl' : Xc} : ∀ {ks : List Nat}, (∀ k ∈ ks, look sl k = look sl' k) → Xi sl ks = Xi sl' ks
 | [], _ => rfl
 | k :: r, h => by simp only [Xi]; rw [h k (by simp), Xm8 (fun j hj => h j (by simp [hj]))]

theorem Yu {P : Prg} {T : Tab} (hT : TOk P T) {fs keep pk : List Nat} {K K' : Xc → Objs → Prop} {Pn Pn' : V → Xc → Objs → Prop} (hK : ∀ s o, K s o → K' s o) (hP : ∀ v s o, Pn v s o → Pn' v s o) :
  ∀ (its : List It) {σ : Sg} {pe pg : List Nat} {sl sl0 : Xc} {ob : Objs} {l : List It2} {kp : List (Nat × E)}, Inv T σ sl sl0 ob → Jy fs keep pk its σ pe pg = some (l, kp) →
  Vk P T (fun sl ob => Wv T sl ob kp ∧ K (V9 T sl ob kp) ob) (fun v sl ob => Pn v (Xi sl pk) ob) l sl0 ob → rwp P (fun sl ob => K' (Xi sl keep) ob) (fun v sl ob => Pn' v (Xi sl pk) ob) its sl ob
 | [], σ, pe, pg, sl, sl0, ob, l, kp, hI, h, hr => by
  simp only [Jy] at h
  split at h
  ·rename_i c1 c2 kp' h1 h2 h3
   cases h
   obtain ⟨_, hr⟩ := Y1 hI h1 hr
   obtain ⟨_, hr⟩ := Y1 hI (l := []) h2 (by simpa using hr)
   simp only [Vk] at hr
   simp only [rwp]
   rw [← (Qt hI h3).1]
   exact hK _ _ hr.2
  ·cases h
 | it :: r, σ, pe, pg, sl, sl0, ob, l, kp, hI, h, hr => by
  simp only [Jy] at h
  split at h
  ·cases h
  ·rename_i p gs hp
   split at h
   ·rename_i k e hd he
    split at h
    ·rename_i hc
     simp only [Bool.and_eq_true, Bool.not_eq_true', List.contains_eq_mem, decide_eq_false_iff_not] at hc
     obtain ⟨⟨⟨c1, c2⟩, c3⟩, c4⟩ := hc
     have go : ∀ v, (Xt sl p = true → v = e.val T sl0 ob) → (Xt sl p = false → v = .undef) → rwp P (fun sl ob => K' (Xi sl keep) ob) (fun v sl ob => Pn' v (Xi sl pk) ob) r ((k, v) :: sl) ob :=
      fun v h1 h2 => Yu hT hK hP r (hI.fold' (e := e) c1 c2 h1 h2) h hr
     have hI' := hI.fold' (e := e) c1 c2 (v := Xhi (Xt sl p) (e.val T sl0 ob)) (fun h => by rw [h]; rfl) (fun h => by rw [h]; rfl)
     obtain ⟨a, hok⟩ := Xhk hI he c1 c2 c3 c4 (Xvx r hI' h hr)
     cases it with
     | op d i =>
      simp only [It.d] at hd; subst hd
      simp only [It.path] at hp; cases hp
      simp only [rwp]
      exact I.lift_sound hT hI rfl he (hok rfl) (go _ (fun _ => rfl) (fun h => by cases h))
     | gop g b d i =>
      simp only [It.d] at hd; subst hd
      simp only [It.path] at hp
      split at hp
      ·rename_i q eg hg
       cases hp
       simp only [rwp]
       cases hq : Xt sl q with
       | false =>
        rw [(hI g q eg hg).2 hq]
        simp only [gdK]
        exact go _ (fun h => by rw [Yy, hq] at h; cases h) (fun _ => rfl)
       | true =>
        have hv := (hI g q eg hg).1 hq
        have hb := a.2 g (by simp) q eg hg hq
        have hcg : ∀ j, look ((g, look sl g) :: sl) j = look sl j := fun j => by
         simp only [look]; split
         ·rename_i e; rw [e]
         ·rfl
        have main : ∀ t, look sl g = .d (.bool t) → gdK g b sl (fun sl => I.wp P sl ob (fun v ob' => rwp P (fun sl ob => K' (Xi sl keep) ob) (fun v sl ob => Pn' v (Xi sl pk) ob) r (put sl (some k) v) ob') (fun v ob' => Pn' v (Xi sl pk) ob') i) (fun sl => rwp P (fun sl ob => K' (Xi sl keep) ob) (fun v sl ob => Pn' v (Xi sl pk) ob) r (put sl (some k) .undef) ob) (look sl g) := by
         intro t ht
         rw [ht]
         simp only [gdK]
         have hh : ∀ u, t = u → Inv T σ ((g, .d (.bool u)) :: sl) sl0 ob := fun u e => by
          subst e; rw [← ht]; exact hI.congr hcg
         have hs : ∀ u, t = u → ∀ p, Xt ((g, .d (.bool u)) :: sl) p = Xt sl p := fun u e p => by
          subst e; rw [← ht]; simp only [Xt, hcg]
         refine ⟨fun e1 => ?_, fun e1 => ?_⟩
         ·have hp1 : Xt sl (q ++ [(g, b)]) = true := by rw [Yy, hq, ht, e1]; simp [isB]
          refine I.lift_sound hT (hh _ e1) (by rw [hs _ e1]; exact hp1) he (hok hp1) ?_
          refine Yu hT hK hP r ((hh _ e1).fold' (e := e) c1 c2 (fun _ => rfl) (fun h => ?_)) h hr
          rw [hs _ e1, hp1] at h; cases h
         ·have hp1 : Xt sl (q ++ [(g, b)]) = false := by rw [Yy, hq, ht, e1]; cases b <;> simp [isB]
          refine Yu hT hK hP r ((hh _ e1).fold' (e := e) c1 c2 (fun h => ?_) (fun _ => rfl)) h hr
          rw [hs _ e1, hp1] at h; cases h
        rcases Xge hb with hb | hb
        ·exact main true (by rw [hv, hb])
        ·exact main false (by rw [hv, hb])
      ·cases hp
    ·cases h
   ·rename_i d x hd hx
    split at h
    ·rename_i c1 c2 h1 h2
     split at h
     ·rename_i ms σ2 hm
      split at h
      ·rename_i lp hl
       split at h
       ·rename_i hc
        simp only [Bool.and_eq_true, List.all_eq_true, Option.isNone_iff_eq_none] at hc
        obtain ⟨⟨⟨d1, d2⟩, d3⟩, d4⟩ := hc
        split at h
        ·rename_i t kp' ht
         cases h
         obtain ⟨_, hr⟩ := Y1 hI h1 hr
         obtain ⟨a2, hr⟩ := Y1 hI h2 hr
         obtain ⟨sl1, hI1, hr⟩ := Xeh hI.kill hm hr
         have hlook : ∀ {s}, Inv T σ2 s sl1 ob → ∀ k, Wa σ2 k = none → look s k = look sl1 k := fun hI k hk => (hI k [] (.a (.t k)) (by simp [ent, hk])).1 rfl
         have hkeep : ∀ {s}, Inv T σ2 s sl1 ob → Xi s pk = Xi sl1 pk := fun {s} hI => by
          exact Xm8 fun k hk => hlook hI k (d4 k hk)
         have step : ∀ {s}, Inv T σ2 s sl1 ob → it.i.wp P sl1 ob (fun v ob' => Vk P T (fun sl ob => Wv T sl ob kp ∧ K (V9 T sl ob kp) ob) (fun v sl ob => Pn v (Xi sl pk) ob) t (put sl1 it.d v) ob') (fun v ob' => Pn v (Xi sl1 pk) ob') →
           it.i.wp P s ob (fun v ob' => rwp P (fun sl ob => K' (Xi sl keep) ob) (fun v sl ob => Pn' v (Xi sl pk) ob) r (put s it.d v) ob') (fun v ob' => Pn' v (Xi s pk) ob') := fun {s} hI h => by
          rw [I.wp_eq (sl' := sl1) (fun k hk => hlook hI k (d1 k hk))]
          refine I.wp_mono (fun v b hv => ?_) (fun v b hv => ?_) h
          ·exact Yu hT hK hP r (hI.eff d2 d3) ht hv
          ·rw [hkeep hI]; exact hP _ _ _ hv
         cases it with
         | op d' i =>
          simp only [It.eff, Vk] at hr
          simp only [rwp]
          exact step hI1 hr
         | gop g b d' i =>
          simp only [It.eff, Vk] at hr
          simp only [It.path] at hp
          split at hp
          ·rename_i q eg hg
           cases hp
           have hh := Vn hI1 _ _ _ hl rfl
           have none' : ∀ {s}, Inv T σ2 s sl1 ob → Xt sl (q ++ [(g, b)]) = false → rwp P (fun sl ob => K' (Xi sl keep) ob) (fun v sl ob => Pn' v (Xi sl pk) ob) r (put s d' .undef) ob := fun {s} hI hf =>
            Yu hT hK hP r (hI.eff d2 d3) ht (hr.2 (by rw [← hh]; exact hf))
           simp only [rwp]
           cases hq : Xt sl q with
           | false =>
            rw [(hI g q eg hg).2 hq]
            simp only [gdK]
            exact none' hI1 (by rw [Yy, hq]; rfl)
           | true =>
            have hv := (hI g q eg hg).1 hq
            have hb := (a2 g (by simp) q eg hg hq).2.1
            have hcg : ∀ j, look ((g, look sl g) :: sl) j = look sl j := fun j => by
             simp only [look]; split
             ·rename_i e; rw [e]
             ·rfl
            have main : ∀ u, look sl g = .d (.bool u) → gdK g b sl (fun sl => I.wp P sl ob (fun v ob' => rwp P (fun sl ob => K' (Xi sl keep) ob) (fun v sl ob => Pn' v (Xi sl pk) ob) r (put sl d' v) ob') (fun v ob' => Pn' v (Xi sl pk) ob') i) (fun sl => rwp P (fun sl ob => K' (Xi sl keep) ob) (fun v sl ob => Pn' v (Xi sl pk) ob) r (put sl d' .undef) ob) (look sl g) := by
             intro u hu
             rw [hu]
             simp only [gdK]
             have hh2 : ∀ w, u = w → Inv T σ2 ((g, .d (.bool w)) :: sl) sl1 ob := fun w e => by
              subst e; rw [← hu]; exact hI1.congr hcg
             refine ⟨fun e1 => ?_, fun e1 => ?_⟩
             ·exact step (hh2 _ e1) (hr.1 (by rw [← hh, Yy, hq, hu, e1]; simp [isB]))
             ·exact none' (hh2 _ e1) (by rw [Yy, hq, hu, e1]; cases b <;> simp [isB])
            rcases Xge hb with hb | hb
            ·exact main true (by rw [hv, hb])
            ·exact main false (by rw [hv, hb])
          ·cases hp
        ·cases h
       ·cases h
      ·cases h
     ·cases h
    ·cases h

theorem Xnv {P : Prg} {n n' : Xc → Objs → Prop} {Pn Pn' : V → Xc → Objs → Prop} (hn : ∀ sl ob, n sl ob → n' sl ob) (hp : ∀ v sl ob, Pn v sl ob → Pn' v sl ob) : ∀ (x : It) (sl : Xc) (ob : Objs), itK P n Pn x sl ob → itK P n' Pn' x sl ob
 | .op d i, sl, ob, h => by
  simp only [itK] at h ⊢
  exact I.wp_mono (fun _ _ h => hn _ _ h) (fun _ _ h => hp _ _ _ h) h
 | .gop s want d i, sl, ob, h => by
  simp only [itK] at h ⊢
  generalize look sl s = v at h ⊢
  unfold gdK at h; split at h
  ·exact ⟨fun e => I.wp_mono (fun _ _ h => hn _ _ h) (fun _ _ h => hp _ _ _ h) (h.1 e), fun e => hn _ _ (h.2 e)⟩
  ·exact hn _ _ h
  ·exact h.elim
mutual
theorem Xe9 {P : Prg} {K K' : Xc → Objs → Prop} {Pn Pn' : V → Xc → Objs → Prop} (hk : ∀ sl ob, K sl ob → K' sl ob) (hp : ∀ v sl ob, Pn v sl ob → Pn' v sl ob) : ∀ (t : Ot) (sl : Xc) (ob : Objs), owp P K Pn t sl ob → owp P K' Pn' t sl ob
 | .done, sl, ob, h => by simp only [owp] at h ⊢; exact hk _ _ h
 | .one _ x r, sl, ob, h => by simp only [owp] at h ⊢; exact Xnv (fun sl ob h => Xe9 hk hp r sl ob h) hp x sl ob h
 | .br l, sl, ob, h => by simp only [owp] at h ⊢; exact Xhs hk hp l sl ob h
theorem Xhs {P : Prg} {K K' : Xc → Objs → Prop} {Pn Pn' : V → Xc → Objs → Prop} (hk : ∀ sl ob, K sl ob → K' sl ob) (hp : ∀ v sl ob, Pn v sl ob → Pn' v sl ob) : ∀ (t : Ots) (sl : Xc) (ob : Objs), Xgv P K Pn t sl ob → Xgv P K' Pn' t sl ob
 | .nil, sl, ob, h => by simp only [Xgv]
 | .cons _ x r l, sl, ob, h => by
  simp only [Xgv] at h ⊢
  exact ⟨Xnv (fun sl ob h => Xe9 hk hp r sl ob h) hp x sl ob h.1, Xhs hk hp l sl ob h.2⟩
end

inductive S2 where
 | rg (l : List It2) (keep : List (Nat × E)) (pk : List Nat)
 | rgT (t : Ot) (keep pk : List Nat)
 | seq (a b : S2)
 | skip
 | cond (c : A) (a b : S2)
 | block (n : Nat) (a : S2)
 | loop (keep : List Nat) (a : S2)
 | exit (n : Nat)
 | ret

def Wk (P : Prg) (T : Tab) : S2 → W7 → Xc → Objs → Prop
 | .rg l keep pk, Q, sl, ob => Vk P T (fun sl ob => Wv T sl ob keep ∧ Q .normal (V9 T sl ob keep) ob) (fun v sl ob => Q (.panic v) (Xi sl pk) ob) l sl ob
 | .rgT t keep pk, Q, sl, ob => owp P (fun sl ob => Q .normal (Xi sl keep) ob) (fun v sl ob => Q (.panic v) (Xi sl pk) ob) t sl ob
 | .seq a b, Q, sl, ob => Wk P T a (Ub (Wk P T b Q) Q) sl ob
 | .skip, Q, sl, ob => Q .normal sl ob
 | .cond c a b, Q, sl, ob => Xat (Wk P T a Q sl ob) (Wk P T b Q sl ob) (c.ev sl)
 | .block n a, Q, sl, ob => Wk P T a (W3 n Q) sl ob
 | .loop keep a, Q, sl, ob => ALoop keep (Wk P T a) Q sl ob
 | .exit n, Q, sl, ob => Q (.exit n) sl ob
 | .ret, Q, sl, ob => Q .ret sl ob

def S.lift (fs : List Nat) : S → Option S2
 | .rg _ l keep pk => match Jy fs keep pk l [] [] [] with
  | some (l, kp) => some (.rg l kp pk)
  | none => none
 | .rgT _ t keep pk => some (.rgT t keep pk)
 | .seq a b => match a.lift fs, b.lift fs with
  | some a, some b => some (.seq a b)
  | _, _ => none
 | .skip => some .skip
 | .cond c a b => match a.lift fs, b.lift fs with
  | some a, some b => some (.cond c a b)
  | _, _ => none
 | .block n a => match a.lift fs with
  | some a => some (.block n a)
  | none => none
 | .loop keep a => match a.lift fs with
  | some a => some (.loop keep a)
  | none => none
 | .exit n => some (.exit n)
 | .ret => some .ret

theorem S.lift_sound {P : Prg} {T : Tab} (hT : TOk P T) {fs : List Nat} : ∀ (s : S) {s2 : S2} {Q Q' : W7} {sl : Xc} {ob : Objs}, s.lift fs = some s2 → (∀ e sl ob, Q e sl ob → Q' e sl ob) → Wk P T s2 Q sl ob → cwp P s Q' sl ob
 | .rg o l keep pk, s2, Q, Q', sl, ob, h, hQ, hc => by
  simp only [S.lift] at h
  split at h
  ·rename_i l' kp hl
   cases h
   simp only [Wk] at hc
   simp only [cwp]
   exact Yu hT (K := fun sl ob => Q .normal sl ob) (Pn := fun v sl ob => Q (.panic v) sl ob) (fun _ _ h => hQ _ _ _ h) (fun _ _ _ h => hQ _ _ _ h) l
    (fun k p e h => by simp [ent, Wa] at h; obtain ⟨rfl, rfl⟩ := h; exact ⟨fun _ => rfl, fun h => by cases h⟩) hl hc
  ·cases h
 | .rgT n t keep pk, s2, Q, Q', sl, ob, h, hQ, hc => by
  simp only [S.lift] at h
  cases h
  simp only [Wk] at hc
  simp only [cwp]
  exact Xe9 (fun _ _ h => hQ _ _ _ h) (fun _ _ _ h => hQ _ _ _ h) t sl ob hc
 | .seq a b, s2, Q, Q', sl, ob, h, hQ, hc => by
  simp only [S.lift] at h
  split at h
  ·rename_i a' b' ha hb
   cases h
   simp only [Wk] at hc
   simp only [cwp]
   refine S.lift_sound hT a ha (fun e sl ob h => ?_) hc
   cases e with
   | normal => exact S.lift_sound hT b hb hQ h
   | _ => exact hQ _ _ _ h
  ·cases h
 | .skip, s2, Q, Q', sl, ob, h, hQ, hc => by simp only [S.lift] at h; cases h; exact hQ _ _ _ hc
 | .cond c a b, s2, Q, Q', sl, ob, h, hQ, hc => by
  simp only [S.lift] at h
  split at h
  ·rename_i a' b' ha hb
   cases h
   simp only [Wk] at hc
   simp only [cwp]
   generalize c.ev sl = v at hc ⊢
   unfold Xat at hc; split at hc
   ·exact ⟨fun e => S.lift_sound hT a ha hQ (hc.1 e), fun e => S.lift_sound hT b hb hQ (hc.2 e)⟩
   ·exact hc.elim
  ·cases h
 | .block n a, s2, Q, Q', sl, ob, h, hQ, hc => by
  simp only [S.lift] at h
  split at h
  ·rename_i a' ha
   cases h
   simp only [Wk] at hc
   simp only [cwp]
   refine S.lift_sound hT a ha (fun e sl ob h => ?_) hc
   cases e with
   | exit m =>
    simp only [W3] at h ⊢
    split
    ·rename_i e; rw [if_pos e] at h; exact hQ _ _ _ h
    ·rename_i e; rw [if_neg e] at h; exact hQ _ _ _ h
   | _ => exact hQ _ _ _ h
  ·cases h
 | .loop keep a, s2, Q, Q', sl, ob, h, hQ, hc => by
  simp only [S.lift] at h
  split at h
  ·rename_i a' ha
   cases h
   simp only [Wk] at hc
   simp only [cwp]
   obtain ⟨ι, S, O, I, μ, i0, h1, h2, h3, h4⟩ := hc.run
   refine ⟨⟨ι, S, O, I, μ, i0, h1, h2, h3, fun i hi => S.lift_sound hT a ha (fun e sl ob h => ?_) (h4 i hi)⟩⟩
   cases e with
   | normal => exact h
   | _ => exact hQ _ _ _ h
  ·cases h
 | .exit n, s2, Q, Q', sl, ob, h, hQ, hc => by simp only [S.lift] at h; cases h; exact hQ _ _ _ hc
 | .ret, s2, Q, Q', sl, ob, h, hQ, hc => by simp only [S.lift] at h; cases h; exact hQ _ _ _ hc
end Go.Ab
/- The equations by which folded statements are walked. Over any program; no condition. -/
namespace Go.Ab
open Go

theorem pcall_lift {P : Prg} {p : Program} (hP : P.p = p) (hm : p.follows .mixedOrders = true) {f : Nat} {s : S} {rs : List RV} {ds : List D} {ob0 : Objs} {K : V → Prop} {fs : List Nat} {s2 : S2} {T : Tab} (hc : X1 p f ds.length s rs = true) (hl : s.lift fs = some s2) (hT : TOk P T)
  (h : Wk P T s2 (Xci rs K) (J2 0 (ds.map .d)) []) : PCall P f (ds.map .d) ob0 K :=
 Xy7 hP hm hc (S.lift_sound hT s hl (fun _ _ _ h => h) h)

theorem acall_lift {P : Prg} {p : Program} (hP : P.p = p) (hm : p.follows .mixedOrders = true) {f : Nat} {s : S} {rs : List RV} {vs : List V} {ob : Objs} {K : Out → Objs → Prop} {fs : List Nat} {s2 : S2} {T : Tab} (hc : X1 p f vs.length s rs = true) (hl : s.lift fs = some s2) (hT : TOk P T)
  (h : (∀ kp, V.mens (young (fresh ob) kp) vs = false) → (∀ kp, noMenO (young (fresh ob) kp) ob = true) → Wk P T s2 (Xgb (fresh ob) rs K) (J2 0 vs) ob) : ACall P f vs ob K :=
 ACall.of_wf fun h1 h2 => by subst hP; exact Xdp hm hc (S.lift_sound hT s hl (fun _ _ _ h => h) (h h1 h2))

def PFn (P : Prg) (f : Nat) (F : Fn) : Prop := ∀ vs, F.pre vs → ∀ (ob : Objs) (K : V → Prop), K (F.val vs) → PCall P f vs ob K
theorem TOk.nil {P : Prg} : TOk P [] := fun f F h => by simp [Qz] at h
theorem TOk.cons {P : Prg} {T : Tab} {f : Nat} {F : Fn} (h : PFn P f F) (hT : TOk P T) : TOk P ((f, F) :: T) := fun g G hg => by
 simp only [Qz] at hg
 split at hg
 ·rename_i e; subst e; cases hg; exact h
 ·exact hT g G hg

def Yct (v : V) : Prop := Xvj (fun w => w = X46 v) v
def Ycx (v : V) : Prop := Xrz (fun w => w = X43 v) v
def X0a (o : BinOp) (u v : V) : Prop := Xm2 o (fun w => w = X4q o u v) u v
def Xd5 (e : Bool) (v : V) : Prop := Vc e (fun w => w = Jh e v) v
def Xpe (e : Bool) (v : V) : Prop := Xao e (fun w => w = Xgq e v) v
def X6n (ob : Objs) (v : V) : Prop := Xpn ob (fun w => w = X56 v) v
def Ycl (k : IntKind) (v : V) : Prop := Xqx k (fun w => w = X3u k v) v
def idxS (u v : V) : Prop := Xw0 (fun w => w = X9w u v) u v
def Xp5 (z : Nat) (u v : V) : Prop := Xc8 z (fun w => w = Xoz u v) u v
def Xjg (ob : Objs) (n z : Nat) (u v : V) : Prop := Xbm ob n z (fun w => w = Xgo u v) u v
def Xp8 (ob : Objs) (f fo : Nat) (v : V) : Prop := Qm ob f fo (fun w => w = Xik f v) v
def Ycz (f fo n : Nat) (ag : Bool) (v : Option (List V)) : Prop := Xw1 f fo n ag (fun w => w = X6l f v) v
def ldS (ob : Objs) (n : Nat) (ag : Bool) (v : V) : Prop := ldK ob n ag (fun w => w = ldV ob v) v
def Xo6 (v : V) : Prop := Xbp (fun w => w = v) v
def Xyk (v : V) : Prop := Xca (fun w => w = Xj6 v) v
def Xgc (ob : Objs) (v : V) : Prop := Jz ob (fun w => w = Xdn v) v
def Xbl (l h : Option V) (v : V) : Prop := Xdh l h (fun w => w = Jc l h v) v
def Xyg (z : Nat) (l h : Option V) (v : V) : Prop := Xdo z l h (fun w => w = Xp2 l h v) v
def Ycw (i : Nat) (v : V) : Prop := Xw5 i (fun w => w = X6k i v) v
def Ycq (t : Nat) (z : D) (v : V) : Prop := Xw6 t z (fun w => w = X6r t z v) v

section
variable (P : Prg) (T : Tab) (sl : Xc) (ob : Objs) (x y z : E) (a : A) (u v w : V) (k j n m : Nat) (b c : Bool) (kd kd' : IntKind) (i i' : Int) (s s' : List UInt8) (xs : List D) (vs : List V) (d : D) (o : BinOp) (p : List Nat)
-- what expressions yield
@[simp] theorem v_a : E.val T sl ob (.a a) = a.ev sl := by simp only [E.val]
@[simp] theorem v_ite : E.val T sl ob (.ite x y z) = Xc1 (x.val T sl ob) (y.val T sl ob) (z.val T sl ob) := by simp only [E.val]
@[simp] theorem v_call : E.val T sl ob (.call k x) = Xzc (Qz T k) (x.val T sl ob) := by simp only [E.val]
@[simp] theorem v_nil : E.val T sl ob .nil = .tup [] := by simp only [E.val]
@[simp] theorem v_cons : E.val T sl ob (.cons x y) = Xt0 (x.val T sl ob) (y.val T sl ob) := by simp only [E.val]
@[simp] theorem v_not : E.val T sl ob (.u (.not (.t 0)) x) = X46 (x.val T sl ob) := by simp [E.val, C.val]
@[simp] theorem v_neg : E.val T sl ob (.u (.neg (.t 0)) x) = X43 (x.val T sl ob) := by simp [E.val, C.val]
@[simp] theorem v_bin : E.val T sl ob (.b (.bin o (.t 0) (.t 1)) x y) = X4q o (x.val T sl ob) (y.val T sl ob) := by simp [E.val, C.val]
@[simp] theorem v_isnil : E.val T sl ob (.u (.isnil b (.t 0)) x) = Jh b (x.val T sl ob) := by simp [E.val, C.val]
@[simp] theorem v_fnil : E.val T sl ob (.u (.fnil b (.t 0)) x) = Xgq b (x.val T sl ob) := by simp [E.val, C.val]
@[simp] theorem v_usd : E.val T sl ob (.u (.usd (.t 0)) x) = X56 (x.val T sl ob) := by simp [E.val, C.val]
@[simp] theorem v_cvi : E.val T sl ob (.u (.cvi kd (.t 0)) x) = X3u kd (x.val T sl ob) := by simp [E.val, C.val]
@[simp] theorem v_idx : E.val T sl ob (.b (.idx (.t 0) (.t 1)) x y) = X9w (x.val T sl ob) (y.val T sl ob) := by simp [E.val, C.val]
@[simp] theorem v_idxA : E.val T sl ob (.b (.idxA n (.t 0) (.t 1)) x y) = Xoz (x.val T sl ob) (y.val T sl ob) := by simp [E.val, C.val]
@[simp] theorem v_idxP : E.val T sl ob (.b (.idxP k n (.t 0) (.t 1)) x y) = Xgo (x.val T sl ob) (y.val T sl ob) := by simp [E.val, C.val]
@[simp] theorem v_fldA : E.val T sl ob (.u (.fldA k n (.t 0)) x) = Xik k (x.val T sl ob) := by simp [E.val, C.val]
@[simp] theorem v_fld : E.val T sl ob (.u (.fld k n m b (.t 0)) x) = X6l k (x.val T sl ob).kids := by simp [E.val, C.val]
@[simp] theorem v_ld : E.val T sl ob (.u (.ld n b (.t 0)) x) = ldV ob (x.val T sl ob) := by simp [E.val, C.val]
@[simp] theorem v_nilc : E.val T sl ob (.u (.nilc (.t 0)) x) = x.val T sl ob := by simp [E.val, C.val]
@[simp] theorem v_lenS : E.val T sl ob (.u (.lenS (.t 0)) x) = Xj6 (x.val T sl ob) := by simp [E.val, C.val]
@[simp] theorem v_lenL : E.val T sl ob (.u (.lenL (.t 0)) x) = Xdn (x.val T sl ob) := by simp [E.val, C.val]
@[simp] theorem v_slcS1 : E.val T sl ob (.b (.slcS (.t 0) (some (.t 1)) none) x y) = Jc (some (y.val T sl ob)) none (x.val T sl ob) := by simp [E.val, C.val]
@[simp] theorem v_slcS2 : E.val T sl ob (.b (.slcS (.t 0) none (some (.t 1))) x y) = Jc none (some (y.val T sl ob)) (x.val T sl ob) := by simp [E.val, C.val]
@[simp] theorem v_slcS3 : E.val T sl ob (.t (.slcS (.t 0) (some (.t 1)) (some (.t 2))) x y z) = Jc (some (y.val T sl ob)) (some (z.val T sl ob)) (x.val T sl ob) := by simp [E.val, C.val]
@[simp] theorem v_slcL1 : E.val T sl ob (.b (.slcL n (.t 0) (some (.t 1)) none) x y) = Xp2 (some (y.val T sl ob)) none (x.val T sl ob) := by simp [E.val, C.val]
@[simp] theorem v_ext : E.val T sl ob (.u (.ext (.t 0) n) x) = X6k n (x.val T sl ob) := by simp [E.val, C.val]
@[simp] theorem v_mki : E.val T sl ob (.u (.mki n (.t 0)) x) = Xxr n (x.val T sl ob) := by simp [E.val, C.val]
@[simp] theorem v_tas : E.val T sl ob (.u (.tas n d (.t 0)) x) = X6r n d (x.val T sl ob) := by simp [E.val, C.val]
-- when expressions are safe
@[simp] theorem o_a : E.ok T sl ob (.a a) = True := by simp only [E.ok]
@[simp] theorem o_ite : E.ok T sl ob (.ite x y z) = (x.ok T sl ob ∧ Xcd (x.val T sl ob) ∧ (isB true (x.val T sl ob) = true → y.ok T sl ob) ∧ (isB false (x.val T sl ob) = true → z.ok T sl ob)) := by simp only [E.ok]
@[simp] theorem o_call : E.ok T sl ob (.call k x) = (x.ok T sl ob ∧ Xzd (Qz T k) (x.val T sl ob)) := by simp only [E.ok]
@[simp] theorem o_nil : E.ok T sl ob .nil = True := by simp only [E.ok]
@[simp] theorem o_cons : E.ok T sl ob (.cons x y) = (x.ok T sl ob ∧ y.ok T sl ob) := by simp only [E.ok]
@[simp] theorem o_not : E.ok T sl ob (.u (.not (.t 0)) x) = (x.ok T sl ob ∧ Yct (x.val T sl ob)) := by simp [E.ok, C.ok, C.val, Yct]
@[simp] theorem o_neg : E.ok T sl ob (.u (.neg (.t 0)) x) = (x.ok T sl ob ∧ Ycx (x.val T sl ob)) := by simp [E.ok, C.ok, C.val, Ycx]
@[simp] theorem o_bin : E.ok T sl ob (.b (.bin o (.t 0) (.t 1)) x y) = (x.ok T sl ob ∧ y.ok T sl ob ∧ X0a o (x.val T sl ob) (y.val T sl ob)) := by simp [E.ok, C.ok, C.val, X0a]
@[simp] theorem o_usd : E.ok T sl ob (.u (.usd (.t 0)) x) = (x.ok T sl ob ∧ X6n ob (x.val T sl ob)) := by simp [E.ok, C.ok, C.val, X6n]
@[simp] theorem o_isnil : E.ok T sl ob (.u (.isnil b (.t 0)) x) = (x.ok T sl ob ∧ Xd5 b (x.val T sl ob)) := by simp [E.ok, C.ok, C.val, Xd5]
@[simp] theorem o_fnil : E.ok T sl ob (.u (.fnil b (.t 0)) x) = (x.ok T sl ob ∧ Xpe b (x.val T sl ob)) := by simp [E.ok, C.ok, C.val, Xpe]
@[simp] theorem o_cvi : E.ok T sl ob (.u (.cvi kd (.t 0)) x) = (x.ok T sl ob ∧ Ycl kd (x.val T sl ob)) := by simp [E.ok, C.ok, C.val, Ycl]
@[simp] theorem o_idx : E.ok T sl ob (.b (.idx (.t 0) (.t 1)) x y) = (x.ok T sl ob ∧ y.ok T sl ob ∧ idxS (x.val T sl ob) (y.val T sl ob)) := by simp [E.ok, C.ok, C.val, idxS]
@[simp] theorem o_idxA : E.ok T sl ob (.b (.idxA n (.t 0) (.t 1)) x y) = (x.ok T sl ob ∧ y.ok T sl ob ∧ Xp5 n (x.val T sl ob) (y.val T sl ob)) := by simp [E.ok, C.ok, C.val, Xp5]
@[simp] theorem o_idxP : E.ok T sl ob (.b (.idxP k n (.t 0) (.t 1)) x y) = (x.ok T sl ob ∧ y.ok T sl ob ∧ Xjg ob k n (x.val T sl ob) (y.val T sl ob)) := by simp [E.ok, C.ok, C.val, Xjg]
@[simp] theorem o_fldA : E.ok T sl ob (.u (.fldA k n (.t 0)) x) = (x.ok T sl ob ∧ Xp8 ob k n (x.val T sl ob)) := by simp [E.ok, C.ok, C.val, Xp8]
@[simp] theorem o_fld : E.ok T sl ob (.u (.fld k n m b (.t 0)) x) = (x.ok T sl ob ∧ Ycz k n m b (x.val T sl ob).kids) := by simp [E.ok, C.ok, C.val, Ycz]
@[simp] theorem o_ld : E.ok T sl ob (.u (.ld n b (.t 0)) x) = (x.ok T sl ob ∧ ldS ob n b (x.val T sl ob)) := by simp [E.ok, C.ok, C.val, ldS]
@[simp] theorem o_nilc : E.ok T sl ob (.u (.nilc (.t 0)) x) = (x.ok T sl ob ∧ Xo6 (x.val T sl ob)) := by simp [E.ok, C.ok, C.val, Xo6]
@[simp] theorem o_lenS : E.ok T sl ob (.u (.lenS (.t 0)) x) = (x.ok T sl ob ∧ Xyk (x.val T sl ob)) := by simp [E.ok, C.ok, C.val, Xyk]
@[simp] theorem o_lenL : E.ok T sl ob (.u (.lenL (.t 0)) x) = (x.ok T sl ob ∧ Xgc ob (x.val T sl ob)) := by simp [E.ok, C.ok, C.val, Xgc]
@[simp] theorem o_slcS1 : E.ok T sl ob (.b (.slcS (.t 0) (some (.t 1)) none) x y) = (x.ok T sl ob ∧ y.ok T sl ob ∧ Xbl (some (y.val T sl ob)) none (x.val T sl ob)) := by simp [E.ok, C.ok, C.val, Xbl]
@[simp] theorem o_slcS2 : E.ok T sl ob (.b (.slcS (.t 0) none (some (.t 1))) x y) = (x.ok T sl ob ∧ y.ok T sl ob ∧ Xbl none (some (y.val T sl ob)) (x.val T sl ob)) := by simp [E.ok, C.ok, C.val, Xbl]
@[simp] theorem o_slcS3 : E.ok T sl ob (.t (.slcS (.t 0) (some (.t 1)) (some (.t 2))) x y z) = (x.ok T sl ob ∧ y.ok T sl ob ∧ z.ok T sl ob ∧ Xbl (some (y.val T sl ob)) (some (z.val T sl ob)) (x.val T sl ob)) := by simp [E.ok, C.ok, C.val, Xbl]
@[simp] theorem o_slcL1 : E.ok T sl ob (.b (.slcL n (.t 0) (some (.t 1)) none) x y) = (x.ok T sl ob ∧ y.ok T sl ob ∧ Xyg n (some (y.val T sl ob)) none (x.val T sl ob)) := by simp [E.ok, C.ok, C.val, Xyg]
@[simp] theorem o_ext : E.ok T sl ob (.u (.ext (.t 0) n) x) = (x.ok T sl ob ∧ Ycw n (x.val T sl ob)) := by simp [E.ok, C.ok, C.val, Ycw]
@[simp] theorem o_mki : E.ok T sl ob (.u (.mki n (.t 0)) x) = x.ok T sl ob := by simp [E.ok, C.ok, C.val]
@[simp] theorem o_tas : E.ok T sl ob (.u (.tas n d (.t 0)) x) = (x.ok T sl ob ∧ Ycq n d (x.val T sl ob)) := by simp [E.ok, C.ok, C.val, Ycq]
-- values
@[simp] theorem pickV_b (b1 b2 : Bool) : Xc1 (.d (.bool b)) (.d (.bool b1)) (.d (.bool b2)) = .d (.bool (if b then b1 else b2)) := by simp only [Xc1]
attribute [simp] Xqh Xwc
@[simp] theorem notV_b : X46 (.d (.bool b)) = .d (.bool (!b)) := by simp only [X46]
@[simp] theorem notS_b : Yct (.d (.bool b)) = True := by simp [Yct]
@[simp] theorem negV_i : X43 (.d (.int kd i)) = .d (.int kd (kd.wrap (0 - i))) := by simp only [X43]
@[simp] theorem negS_i : Ycx (.d (.int kd i)) = True := by simp [Ycx]
@[simp] theorem binV_i : X4q o (.d (.int kd i)) (.d (.int kd' i')) = Xa1 o kd i i' := by simp only [X4q]
@[simp] theorem binV_s : X4q o (.d (.str s)) (.d (.str s')) = X00 o s s' := by simp only [X4q]
@[simp] theorem intV_add : Xa1 .add kd i i' = .d (.int kd (kd.wrap (i + i'))) := by simp only [Xa1]
@[simp] theorem intV_sub : Xa1 .sub kd i i' = .d (.int kd (kd.wrap (i - i'))) := by simp only [Xa1]
@[simp] theorem intV_mul : Xa1 .mul kd i i' = .d (.int kd (kd.wrap (i * i'))) := by simp only [Xa1]
@[simp] theorem intV_eql : Xa1 .eql kd i i' = .d (.bool (i == i')) := by simp only [Xa1]
@[simp] theorem intV_neq : Xa1 .neq kd i i' = .d (.bool (i != i')) := by simp only [Xa1]
@[simp] theorem intV_lss : Xa1 .lss kd i i' = .d (.bool (decide (i < i'))) := by simp only [Xa1]
@[simp] theorem intV_leq : Xa1 .leq kd i i' = .d (.bool (decide (i ≤ i'))) := by simp only [Xa1]
@[simp] theorem intV_gtr : Xa1 .gtr kd i i' = .d (.bool (decide (i' < i))) := by simp only [Xa1]
@[simp] theorem intV_geq : Xa1 .geq kd i i' = .d (.bool (decide (i' ≤ i))) := by simp only [Xa1]
@[simp] theorem strV_eql : X00 .eql s s' = .d (.bool (s == s')) := by simp only [X00]
@[simp] theorem strV_neq : X00 .neq s s' = .d (.bool (s != s')) := by simp only [X00]
def Yfa (o : BinOp) (i : Int) : Prop := match o with
 | .quo | .rem => i ≠ 0
 | .shl | .shr => 0 ≤ i
 | _ => True
@[simp] theorem binS_i : X0a o (.d (.int kd i)) (.d (.int kd i')) = Yfa o i' := by cases o <;> simp [X0a, Yfa, Xqd, Xa1]
attribute [simp] Yfa
@[simp] theorem binS_eql : X0a .eql (.d (.str s)) (.d (.str s')) = True := by simp [X0a]
@[simp] theorem binS_neq : X0a .neq (.d (.str s)) (.d (.str s')) = True := by simp [X0a]
@[simp] theorem isnilV_n : Jh b (.d .nili) = .d (.bool b) := by simp only [Jh]
@[simp] theorem isnilS_n : Xd5 b (.d .nili) = True := by simp [Xd5]
@[simp] theorem isnilV_di : Jh b (.d (.iface k d)) = .d (.bool (!b)) := by simp only [Jh]
@[simp] theorem isnilS_di : Xd5 b (.d (.iface k d)) = True := by simp [Xd5]
@[simp] theorem fnilV_n : Xgq b (.d .nilf) = .d (.bool b) := by simp only [Xgq]
@[simp] theorem fnilV_f (l l' : List V) : Xgq b (.fn k l l') = .d (.bool (!b)) := by simp only [Xgq]
@[simp] theorem fnilS_n : Xpe b (.d .nilf) = True := by simp [Xpe]
@[simp] theorem fnilS_f (l l' : List V) : Xpe b (.fn k l l') = True := by simp [Xpe]
@[simp] theorem usdV_s : X56 (.sl k n) = .sd k n := by simp only [X56]
@[simp] theorem usdV_n : X56 (.d .nils) = .d .nilp := by simp only [X56]
@[simp] theorem usdS_s : X6n ob (.sl k n) = ∃ E sz xs, lookO ob k = some (.arr E sz xs) ∧ sz ≠ 0 ∧ n = xs.length ∧ xs ≠ [] := by simp [X6n]
@[simp] theorem usdS_n : X6n ob (.d .nils) = True := by simp [X6n]
@[simp] theorem cviV_i : X3u kd (.d (.int kd' i)) = .d (.int kd (kd.wrap i)) := by simp only [X3u]
@[simp] theorem cviS_i : Ycl kd (.d (.int kd' i)) = True := by simp [Ycl]
@[simp] theorem idxV_s : X9w (.d (.str s)) (.d (.int kd i)) = .d (.int .u8 (s.getD i.toNat 0).toNat) := by simp only [X9w]
@[simp] theorem idxS_s : idxS (.d (.str s)) (.d (.int kd i)) = (0 ≤ i ∧ i < s.length) := by simp [idxS]
@[simp] theorem idxAV_l : Xoz (.d (.list n xs)) (.d (.int kd i)) = .d (.ref (xs.getD i.toNat default)) := by simp only [Xoz]
@[simp] theorem idxAS_l : Xp5 n (.d (.list n xs)) (.d (.int kd i)) = (0 ≤ i ∧ i < xs.length) := by simp [Xp5]
@[simp] theorem idxPV_p : Xgo (.ptr j p) (.d (.int kd i)) = .ptr j (p ++ [i.toNat]) := by simp only [Xgo]
@[simp] theorem idxPV_c : Xgo (.d (.ref (.agg xs))) (.d (.int kd i)) = .d (.ref (xs.getD i.toNat default)) := by simp only [Xgo]
@[simp] theorem idxPS_p : Xjg ob k n (.ptr j p) (.d (.int kd i)) = ((0 ≤ i ∧ i < k) ∧ ∃ ks, Ut (atO ob j p) = some ks ∧ ks.length = k ∧ ∀ k ∈ ks, k.size = n) := by simp [Xjg]
@[simp] theorem X59 : Xjg ob k n (.d (.ref (.agg xs))) (.d (.int kd i)) = ((0 ≤ i ∧ i < k) ∧ xs.length = k ∧ ∀ x ∈ xs, x.sz = n) := by simp [Xjg]
@[simp] theorem fldAV_p : Xik k (.ptr j p) = .ptr j (p ++ [k]) := by simp only [Xik]
@[simp] theorem fldAV_c : Xik k (.d (.ref (.agg xs))) = .d (.ref (xs.getD k default)) := by simp only [Xik]
def Xok (f fo : Nat) : Option (List V) → Prop
 | some ks => f < ks.length ∧ Sh.sizes ((ks.take f).map V.shape) = fo
 | none => False
@[simp] theorem fldASo_s : Xok k n (some vs) = (k < vs.length ∧ Sh.sizes ((vs.take k).map V.shape) = n) := by simp only [Xok]
@[simp] theorem fldAS_p : Xp8 ob k n (.ptr j p) = Xok k n (Ut (atO ob j p)) := by
 simp only [Xp8, Qm, Xok]; cases Ut (atO ob j p) <;> simp [Us]
@[simp] theorem fldAS_c : Xp8 ob k n (.d (.ref (.agg xs))) = (k < xs.length ∧ D.szs (xs.take k) = n) := by simp [Xp8]
@[simp] theorem fldV_s : X6l k (some vs) = vs.getD k .any := by simp only [X6l]
@[simp] theorem fldS_s : Ycz k j n b (some vs) = (k < vs.length ∧ Sh.sizes ((vs.take k).map V.shape) = j ∧ (vs.getD k .any).size = n ∧ (vs.getD k .any).isAgg = b) := by simp only [Ycz, Xw1, X6l, and_true]
@[simp] theorem ldVo_s : X9b (some v) = v := by simp only [X9b]
@[simp] theorem ldV_p : ldV ob (.ptr j p) = X9b (atO ob j p) := by simp only [ldV]
@[simp] theorem ldV_c : ldV ob (.d (.ref d)) = .d d := by simp only [ldV]
def Ycv (n : Nat) (b : Bool) : Option V → Prop
 | some v => v.size = n ∧ v.isAgg = b
 | none => False
@[simp] theorem ldSo_s : Ycv n b (some v) = (v.size = n ∧ v.isAgg = b) := by simp only [Ycv]
@[simp] theorem ldS_p : ldS ob n b (.ptr j p) = Ycv n b (atO ob j p) := by
 simp only [ldS, ldK, ldV]; cases atO ob j p <;> simp [Xws, Ycv, X9b]
@[simp] theorem ldS_c : ldS ob n b (.d (.ref d)) = (d.sz = n ∧ (V.d d).isAgg = b) := by simp [ldS]
@[simp] theorem nilcS_p : Xo6 (.ptr j p) = True := by simp [Xo6]
@[simp] theorem nilcS_c : Xo6 (.d (.ref d)) = True := by simp [Xo6]
@[simp] theorem lenSV_s : Xj6 (.d (.str s)) = .d (.int .i64 s.length) := by simp only [Xj6]
@[simp] theorem lenSS_s : Xyk (.d (.str s)) = True := by simp [Xyk]
@[simp] theorem lenLV_l : Xdn (.d (.list n xs)) = .d (.int .i64 xs.length) := by simp only [Xdn]
@[simp] theorem lenLV_n : Xdn (.d .nils) = .d (.int .i64 0) := by simp only [Xdn]
@[simp] theorem lenLV_o : Xdn (.sl j n) = .d (.int .i64 n) := by simp only [Xdn]
@[simp] theorem lenLS_l : Xgc ob (.d (.list n xs)) = True := by simp [Xgc]
@[simp] theorem lenLS_n : Xgc ob (.d .nils) = True := by simp [Xgc]
@[simp] theorem lenLS_o : Xgc ob (.sl j n) = ∃ E z xs, lookO ob j = some (.arr E z xs) ∧ n = xs.length := by simp [Xgc]
@[simp] theorem slcSV_sn : Jc (some (.d (.int kd i))) none (.d (.str s)) = .d (.str (s.drop i.toNat)) := by simp [Jc, Xwv]
@[simp] theorem slcSV_ns : Jc none (some (.d (.int kd i))) (.d (.str s)) = .d (.str (s.take i.toNat)) := by simp [Jc, Xwv]
@[simp] theorem slcSV_ss : Jc (some (.d (.int kd i))) (some (.d (.int kd' i'))) (.d (.str s)) = .d (.str ((s.take i'.toNat).drop i.toNat)) := by simp only [Jc, Xwv]
@[simp] theorem slcSS_sn : Xbl (some (.d (.int kd i))) none (.d (.str s)) = (0 ≤ i ∧ i ≤ s.length) := by simp [Xbl, Jc, Xwv]
@[simp] theorem slcSS_ns : Xbl none (some (.d (.int kd i))) (.d (.str s)) = (0 ≤ i ∧ i ≤ s.length) := by simp [Xbl, Jc, Xwv]
@[simp] theorem slcSS_ss : Xbl (some (.d (.int kd i))) (some (.d (.int kd' i'))) (.d (.str s)) = ((0 ≤ i' ∧ i' ≤ s.length) ∧ 0 ≤ i ∧ i ≤ i') := by simp [Xbl, Jc, Xwv]
@[simp] theorem slcLV_sn : Xp2 (some (.d (.int kd i))) none (.d (.list n xs)) = .d (.list n (xs.drop i.toNat)) := by simp [Xp2, Xwv]
@[simp] theorem slcLS_sn : Xyg n (some (.d (.int kd i))) none (.d (.list n xs)) = (0 ≤ i ∧ i ≤ xs.length) := by simp [Xyg, Xp2, Xwv]
@[simp] theorem extV_t : X6k n (.tup vs) = vs.getD n .any := by simp only [X6k]
@[simp] theorem extS_t : Ycw n (.tup vs) = (n < vs.length) := by simp [Ycw, X6k]
@[simp] theorem tasV_dy (d' : D) : X6r k d (.d (.iface k d')) = .tup [.d d', .d (.bool true)] := by simp [X6r]
@[simp] theorem tasS_d (d' : D) : Ycq k d (.d (.iface j d')) = True := by by_cases h : j = k <;> simp [Ycq, Xw6, X6r, h]
@[simp] theorem consV_t : Xt0 v (.tup vs) = .tup (v :: vs) := by simp only [Xt0]
@[simp] theorem callV_s (F : Fn) : Xzc (some F) (.tup vs) = F.val vs := by simp only [Xzc]
@[simp] theorem callP_s (F : Fn) : Xzd (some F) (.tup vs) = F.pre vs := by simp only [Xzd]
@[simp] theorem lookT_eq (F : Fn) : Qz ((k, F) :: T) k = some F := by simp [Qz]
@[simp] theorem lookT_ne (F : Fn) (h : (j == k) = false) : Qz ((j, F) :: T) k = Qz T k := by simp at h; simp [Qz, h]
@[simp] theorem isB_b : isB c (.d (.bool b)) = (b == c) := by simp only [isB]
@[simp] theorem boolV_b : Xcd (.d (.bool b)) = True := by simp only [Xcd]
@[simp] theorem whenV_t : Xhi true v = v := by simp [Xhi]
@[simp] theorem whenV_f : Xhi false v = .undef := by simp [Xhi]
@[simp] theorem holdsB_nil : Zl T sl ob [] = true := by simp [Zl]
@[simp] theorem holdsB_cons (l : List (E × Bool)) : Zl T sl ob ((x, b) :: l) = (isB b (x.val T sl ob) && Zl T sl ob l) := by simp [Zl]
-- folded statements
@[simp] theorem zs (KS : Xc → Objs → Prop) (PS : V → Xc → Objs → Prop) : Vk P T KS PS [] sl ob = KS sl ob := by simp only [Vk]
@[simp] theorem zp (KS : Xc → Objs → Prop) (PS : V → Xc → Objs → Prop) (q : List (E × Bool)) (l : List It2) : Vk P T KS PS (.chk q x :: l) sl ob = ((Zl T sl ob q = true → x.ok T sl ob) ∧ Vk P T KS PS l sl ob) := by simp only [Vk]
@[simp] theorem zr (KS : Xc → Objs → Prop) (PS : V → Xc → Objs → Prop) (q : List (E × Bool)) (l : List It2) : Vk P T KS PS (.lt k q x :: l) sl ob = ((Zl T sl ob q = true → x.ok T sl ob) ∧ Vk P T KS PS l ((k, Xhi (Zl T sl ob q) (x.val T sl ob)) :: sl) ob) := by simp only [Vk]
@[simp] theorem zt (KS : Xc → Objs → Prop) (PS : V → Xc → Objs → Prop) (dd : Option Nat) (e : I) (l : List It2) : Vk P T KS PS (.op dd e :: l) sl ob = e.wp P sl ob (fun v ob' => Vk P T KS PS l (put sl dd v) ob') (fun v ob' => PS v sl ob') := by simp only [Vk]
@[simp] theorem zq (KS : Xc → Objs → Prop) (PS : V → Xc → Objs → Prop) (q : List (E × Bool)) (dd : Option Nat) (e : I) (l : List It2) : Vk P T KS PS (.gop q dd e :: l) sl ob = ((Zl T sl ob q = true → e.wp P sl ob (fun v ob' => Vk P T KS PS l (put sl dd v) ob') (fun v ob' => PS v sl ob')) ∧ (Zl T sl ob q = false → Vk P T KS PS l (put sl dd .undef) ob)) := by simp only [Vk]
@[simp] theorem keepE_nil : V9 T sl ob [] = [] := by simp only [V9]
@[simp] theorem keepE_cons (l : List (Nat × E)) : V9 T sl ob ((k, x) :: l) = (k, x.val T sl ob) :: V9 T sl ob l := by simp only [V9]
@[simp] theorem keepOk_nil : Wv T sl ob [] = True := by simp only [Wv]
@[simp] theorem keepOk_cons (l : List (Nat × E)) : Wv T sl ob ((k, x) :: l) = (x.ok T sl ob ∧ Wv T sl ob l) := by simp only [Wv]
variable (Q : W7) (s1 s2 : S2)
@[simp] theorem ql (l : List It2) (kp : List (Nat × E)) (pk : List Nat) : Wk P T (.rg l kp pk) Q sl ob = Vk P T (fun sl ob => Wv T sl ob kp ∧ Q .normal (V9 T sl ob kp) ob) (fun v sl ob => Q (.panic v) (Xi sl pk) ob) l sl ob := by simp only [Wk]
@[simp] theorem qn : Wk P T (.seq s1 s2) Q sl ob = Wk P T s1 (Ub (Wk P T s2 Q) Q) sl ob := by simp only [Wk]
@[simp] theorem qo : Wk P T .skip Q sl ob = Q .normal sl ob := by simp only [Wk]
@[simp] theorem qi : Wk P T (.cond a s1 s2) Q sl ob = Xat (Wk P T s1 Q sl ob) (Wk P T s2 Q sl ob) (a.ev sl) := by simp only [Wk]
@[simp] theorem qh : Wk P T (.block n s1) Q sl ob = Wk P T s1 (W3 n Q) sl ob := by simp only [Wk]
@[simp] theorem cwp2_loop (kp : List Nat) : Wk P T (.loop kp s1) Q sl ob = ALoop kp (Wk P T s1) Q sl ob := by simp only [Wk]
@[simp] theorem qj : Wk P T (.exit n) Q sl ob = Q (.exit n) sl ob := by simp only [Wk]
@[simp] theorem qk : Wk P T .ret Q sl ob = Q .ret sl ob := by simp only [Wk]
end
@[congr] theorem rwp2_congr {P : Prg} {T : Tab} {KS : Xc → Objs → Prop} {PS : V → Xc → Objs → Prop} {l : List It2} {sl sl' : Xc} {ob ob' : Objs} (h : sl = sl') (h' : ob = ob') : Vk P T KS PS l sl ob = Vk P T KS PS l sl' ob' := by rw [h, h']
@[congr] theorem cwp2_congr {P : Prg} {T : Tab} {s : S2} {Q : W7} {sl sl' : Xc} {ob ob' : Objs} (h : sl = sl') (h' : ob = ob') : Wk P T s Q sl ob = Wk P T s Q sl' ob' := by rw [h, h']
@[congr] theorem E_val_congr {T : Tab} {sl : Xc} {ob : Objs} {e : E} : E.val T sl ob e = E.val T sl ob e := rfl
@[congr] theorem E_ok_congr {T : Tab} {sl : Xc} {ob : Objs} {e : E} : E.ok T sl ob e = E.ok T sl ob e := rfl
end Go.Ab
/- Objects lent to a call that only reads: it sees them as data. Over any program; no condition. -/
namespace Go.Ab
open Go

def Xbj {α β : Type} (f : α → Option β) : List α → Option (List β)
 | [] => some []
 | x :: r => match f x with
  | some y => match Xbj f r with
   | some l => some (y :: l)
   | none => none
  | none => none
def Xt4 (k : Nat) : Option Ob → Option D
 | some (.arr _ sz xs) => if sz ≠ 0 ∧ k = xs.length then some (.list sz xs) else none
 | _ => none
def X6j (f : V → Option D) : Option V → Option D
 | some t => (f t).map .ref
 | none => none
def V.toD (ob : Objs) : Nat → V → Option D
 | 0, _ => none
 | _ + 1, .d x => some x
 | n + 1, .ptr id p => X6j (V.toD ob n) (atO ob id p)
 | _ + 1, .sl id k => Xt4 k (lookO ob id)
 | n + 1, .fn f fi ca => match Xbj (V.toD ob n) fi, Xbj (V.toD ob n) ca with
  | some l, some m => some (.fn f l m)
  | _, _ => none
 | n + 1, .agg xs => (Xbj (V.toD ob n) xs).map .agg
 | n + 1, .iface t x => (V.toD ob n x).map (.iface t)
 | _ + 1, _ => none
def V.toDs (ob : Objs) (n : Nat) (vs : List V) : Option (List D) := Xbj (V.toD ob n) vs

mutual
def D.flat : D → Bool
 | .agg xs => D.flats xs
 | .list _ _ | .ref _ | .fn _ _ _ | .iface _ _ => false
 | _ => true
def D.flats : List D → Bool
 | [] => true
 | x :: r => x.flat && D.flats r
end
def V.flat : V → Bool
 | .d x => x.flat
 | _ => false
def V.flatR : V → Bool
 | .d x => x.flat
 | .tup xs => xs.all V.flat
 | _ => false

section
variable {w : World} {ρ : Env} {ob : Objs}
def Xw3 : Nat → Prop := fun _ => False
theorem X3j : Xgt w (own ρ) w Xw3 := fun _ _ _ => ⟨rfl, fun h => h⟩

mutual
theorem D.flat_rep {ow ow' : Nat → Prop} : ∀ (x : D) (cs : List Value), x.flat = true → x.rep w ow cs → x.rep w ow' cs
 | .int _ _, _, _, h | .bool _, _, _, h | .str _, _, _, h | .nils, _, _, h | .nili, _, _, h | .nilp, _, _, h | .nilf, _, _, h | .nilm, _, _, h => by simpa only [D.rep] using h
 | .agg xs, cs, hf, h => by simp only [D.rep] at h ⊢; simp only [D.flat] at hf; exact D.flats_rep xs cs hf h
 | .list _ _, _, hf, _ | .ref _, _, hf, _ | .fn _ _ _, _, hf, _ | .iface _ _, _, hf, _ => by simp [D.flat] at hf
theorem D.flats_rep {ow ow' : Nat → Prop} : ∀ (xs : List D) (cs : List Value), D.flats xs = true → D.repL w ow xs cs → D.repL w ow' xs cs
 | [], _, _, h => by simpa only [D.repL] using h
 | x :: r, cs, hf, h => by
  simp only [D.repL] at h ⊢
  simp only [D.flats, Bool.and_eq_true] at hf
  obtain ⟨c1, c2, e, h1, h2⟩ := h
  exact ⟨c1, c2, e, D.flat_rep x c1 hf.1 h1, D.flats_rep r c2 hf.2 h2⟩
end
theorem V.flat_rep {ρ' : Env} {v : V} {u : Value} (hf : v.flat = true) (h : v.rep w ρ u) : v.rep w ρ' u := by
 cases v with
 | d x =>
  simp only [V.flat] at hf
  rw [Xde] at h ⊢
  rcases h with ⟨a, ds, e, r⟩ | ⟨a, r⟩
  ·exact .inl ⟨a, ds, e, D.flat_rep x ds hf r⟩
  ·exact .inr ⟨a, D.flat_rep x _ hf r⟩
 | _ => simp [V.flat] at hf
theorem V.flats_rep {ρ' : Env} : ∀ {vs : List V} {us : List Value}, vs.all V.flat = true → V.reps w ρ vs us → V.reps w ρ' vs us
 | [], _, _, h => by simpa only [V.reps] using h
 | v :: r, us, hf, h => by
  simp only [List.all_cons, Bool.and_eq_true] at hf
  simp only [V.reps] at h ⊢
  obtain ⟨u, us', e, h1, h2⟩ := h
  exact ⟨u, us', e, V.flat_rep (ρ := ρ) (u := u) hf.1 h1, V.flats_rep hf.2 h2⟩
theorem V.flatR_rep {ρ' : Env} {v : V} {u : Value} (hf : v.flatR = true) (h : v.rep w ρ u) : v.rep w ρ' u := by
 cases v with
 | d x => exact V.flat_rep (v := .d x) hf h
 | tup xs =>
  rw [rep_tup] at h ⊢
  obtain ⟨vs, e, h⟩ := h
  exact ⟨vs, e, V.flats_rep hf h⟩
 | _ => simp [V.flatR] at hf

theorem Xhz (hO : OM w ρ ob) : ∀ (n : Nat) (v : V) (cs : List Value) (y : D), v.repC w ρ cs → V.toD ob n v = some y → y.rep w Xw3 cs ∧ y.isAgg = v.isAgg := by
 intro n
 induction n with
 | zero => intro v cs y _ h; simp [V.toD] at h
 | succ n ih =>
  have ihT : ∀ (v : V) (u : Value) (y : D), v.rep w ρ u → V.toD ob n v = some y → (y.isAgg = true ∧ ∃ ds, u = .agg ds.toArray ∧ y.rep w Xw3 ds) ∨ (y.isAgg = false ∧ y.rep w Xw3 [u]) := by
   intro v u y h e
   rcases h with h | ⟨a, ds, q, r⟩ | ⟨a, r⟩
   ·subst h; cases n <;> simp [V.toD] at e
   ·obtain ⟨h1, h2⟩ := ih v ds y r e; exact .inl ⟨h2.trans a, ds, q, h1⟩
   ·obtain ⟨h1, h2⟩ := ih v _ y r e; exact .inr ⟨h2.trans a, h1⟩
  have seqT : ∀ (vs : List V) (us : List Value) (l : List D), V.reps w ρ vs us → Xbj (V.toD ob n) vs = some l → D.repT w Xw3 l us := by
   intro vs
   induction vs with
   | nil => intro us l h e; simp only [Xbj] at e; cases e; simpa only [V.reps, D.repT] using h
   | cons v r ihr =>
    intro us l h e
    simp only [V.reps] at h
    obtain ⟨u, us', rfl, h1, h2⟩ := h
    simp only [Xbj] at e
    split at e
    ·rename_i y hy
     split at e
     ·rename_i l' hl; cases e
      simp only [D.repT]
      exact ⟨u, us', rfl, ihT v u y h1 hy, ihr us' l' h2 hl⟩
     ·cases e
    ·cases e
  have Yam : ∀ (vs : List V) (cs : List Value) (l : List D), V.repCs w ρ vs cs → Xbj (V.toD ob n) vs = some l → D.repL w Xw3 l cs := by
   intro vs
   induction vs with
   | nil => intro us l h e; simp only [Xbj] at e; cases e; simpa only [V.repCs, D.repL] using h
   | cons v r ihr =>
    intro cs l h e
    simp only [V.repCs] at h
    obtain ⟨c1, c2, rfl, h1, h2⟩ := h
    simp only [Xbj] at e
    split at e
    ·rename_i y hy
     split at e
     ·rename_i l' hl; cases e
      simp only [D.repL]
      exact ⟨c1, c2, rfl, (ih v c1 y h1 hy).1, ihr c2 l' h2 hl⟩
     ·cases e
    ·cases e
  intro v cs y h e
  cases v with
  | d x =>
   simp only [V.toD] at e; cases e
   simp only [V.repC] at h
   exact ⟨D.rep_mono X3j _ _ h, by cases y <;> rfl⟩
  | ptr id p =>
   simp only [V.toD] at e
   cases hat : atO ob id p with
   | none => rw [hat] at e; simp only [X6j] at e; cases e
   | some t =>
    simp only [hat, X6j, Option.map_eq_some_iff] at e
    obtain ⟨z, hz, rfl⟩ := e
    obtain ⟨t0, b, cs0, E, g1, g2, g3, g4, g5⟩ := Xd4 hO hat
    have hr : (V.ptr id p).rep w ρ (cs.headD undef) := by
     have hl := V.repC_len _ _ h
     simp [V.shape, Sh.size] at hl
     obtain ⟨c, rfl⟩ := List.length_eq_one_iff.1 hl
     exact .inr (.inr ⟨rfl, by simpa using h⟩)
    obtain ⟨b', sh, hρ, hu⟩ := rep_ptr_box hO g1 hr
    rw [g3] at hρ; cases hρ
    have hl := V.repC_len _ _ h
    simp [V.shape, Sh.size] at hl
    obtain ⟨c, rfl⟩ := List.length_eq_one_iff.1 hl
    simp only [List.headD_cons] at hu
    subst hu
    obtain ⟨c1, c2, c3, e1, e2, h5⟩ := V.repC_at p t0 t cs0 g5 g2
    refine ⟨?_, rfl⟩
    simp only [D.rep]
    refine ⟨_, c2, rfl, rfl, ⟨fun _ => ⟨rfl, fun h => h, Xu g4⟩, fun i hi => ?_⟩, (ih t c2 z h5 hz).1⟩
    rw [← e2]
    simp [World.cell?, g4, e1, List.getElem?_append, hi]
  | sl id k =>
   simp only [V.toD] at e
   unfold Xt4 at e
   split at e
   ·rename_i E sz xs hl
    split at e
    ·rename_i hc; cases e
     obtain ⟨hsz, rfl⟩ := hc
     simp only [V.repC] at h
     obtain ⟨o, u, h1, rfl, h2⟩ := h
     have := Xew hO hl hsz (u := u) (by rw [Vh]; exact ⟨o, h1, h2⟩)
     rw [Vr (by simp [V.isAgg]) (by simp)] at this
     simp only [V.repC] at this
     exact ⟨D.rep_mono (ow' := Xw3) (fun _ _ _ => ⟨rfl, fun h => h⟩) _ _ this, rfl⟩
    ·cases e
   ·cases e
  | fn f fi ca =>
   simp only [V.toD] at e
   split at e
   ·rename_i l m hl hm
    cases e
    simp only [V.repC] at h
    obtain ⟨fs, gs, e1, h1, h2⟩ := h
    exact ⟨by simp only [D.rep]; exact ⟨fs, gs, e1, seqT fi fs l h1 hl, seqT ca gs m h2 hm⟩, rfl⟩
   ·cases e
  | agg xs =>
   simp only [V.toD, Option.map_eq_some_iff] at e
   obtain ⟨l, hl, rfl⟩ := e
   simp only [V.repC] at h
   exact ⟨by simp only [D.rep]; exact Yam xs cs l h hl, rfl⟩
  | iface t x =>
   simp only [V.toD, Option.map_eq_some_iff] at e
   obtain ⟨z, hz, rfl⟩ := e
   simp only [V.repC] at h
   obtain ⟨u, e1, h1⟩ := h
   exact ⟨by simp only [D.rep]; exact ⟨u, e1, ihT x u z h1 hz⟩, rfl⟩
  | _ => simp [V.toD] at e

theorem Xek (hO : OM w ρ ob) {n : Nat} : ∀ (vs : List V) (us : List Value) (l : List D), V.reps w ρ vs us → V.toDs ob n vs = some l → D.repT w Xw3 l us
 | [], us, l, h, e => by simp only [V.toDs, Xbj] at e; cases e; simpa only [V.reps, D.repT] using h
 | v :: r, us, l, h, e => by
  simp only [V.reps] at h
  obtain ⟨u, us', rfl, h1, h2⟩ := h
  simp only [V.toDs, Xbj] at e
  split at e
  ·rename_i y hy
   split at e
   ·rename_i l' hl; cases e
    simp only [D.repT]
    refine ⟨u, us', rfl, ?_, Xek hO r us' l' h2 hl⟩
    rcases h1 with h | ⟨a, ds, q, r⟩ | ⟨a, r⟩
    ·subst h; cases n <;> simp [V.toD] at hy
    ·obtain ⟨h1, h2⟩ := Xhz hO n v ds y r hy; exact .inl ⟨h2.trans a, ds, q, h1⟩
    ·obtain ⟨h1, h2⟩ := Xhz hO n v _ y r hy; exact .inr ⟨h2.trans a, h1⟩
   ·cases e
  ·cases e

theorem PCall.borrow {P : Prg} {f n : Nat} {vs : List V} {ds : List D} {K : V → Prop} (hd : V.toDs ob n vs = some ds) (h : PCall P f (ds.map .d) [] fun v => v.flatR = true ∧ K v) : PCall P f vs ob K := by
 refine ⟨fun w ρ args hO hg hr => ?_⟩
 let ρ0 : Env := ⟨fun _ => none, Xw3, ρ.gl⟩
 have hno : ∀ b, ¬ own ρ0 b := fun b h => h.elim (fun ⟨_, _, h, _⟩ => by cases h) (fun h => h)
 have hO0 : OM w ρ0 [] := ⟨fun j x hx => (by simp [lookO] at hx), fun j o hj => (by cases hj), fun i j o p b hi => (by cases hi), fun b hb => hb.elim, fun b o hb => ⟨(hO.glb b o hb).1, hno b⟩, fun b hb => absurd (.inl hb) (hno b), trivial⟩
 have hr0 : V.reps w ρ0 (ds.map .d) args := by
  rw [Xt9]
  have := Xek hO vs args ds hr hd
  exact D.repT_mono (ow := Xw3) (fun _ _ _ => ⟨rfl, hno _⟩) _ _ this
 refine (h.run w ρ0 args hO0 hg hr0).mono fun e w' ⟨v, u, ⟨k1, k2⟩, he, r, x⟩ => ⟨v, u, k2, he, V.flatR_rep k1 r, x⟩
theorem PCall.data {P : Prg} {f : Nat} {vs : List V} {ds : List D} {K : V → Prop} (hd : vs = ds.map .d) (h : PCall P f (ds.map .d) ob K) : PCall P f vs ob K := by subst hd; exact h
end

section
variable (ob : Objs) (n k f : Nat) (x : D) (v : V) (vs : List V) (p : List Nat)
@[simp] theorem toD_d : V.toD ob (n + 1) (.d x) = some x := by simp only [V.toD]
@[simp] theorem toD_ptr : V.toD ob (n + 1) (.ptr k p) = X6j (V.toD ob n) (atO ob k p) := by simp only [V.toD]
@[simp] theorem toD_sl (m : Nat) : V.toD ob (n + 1) (.sl k m) = Xt4 m (lookO ob k) := by simp only [V.toD]
@[simp] theorem lentO_s (m E sz : Nat) (xs : List D) : Xt4 m (some (.arr E sz xs)) = if sz ≠ 0 ∧ m = xs.length then some (.list sz xs) else none := by simp only [Xt4]
@[simp] theorem refO_s (g : V → Option D) : X6j g (some v) = (g v).map .ref := by simp only [X6j]
def fnO (f : Nat) : Option (List D) → Option (List D) → Option D
 | some l, some m => some (.fn f l m)
 | _, _ => none
@[simp] theorem toD_fn (l l' : List V) : V.toD ob (n + 1) (.fn f l l') = fnO f (Xbj (V.toD ob n) l) (Xbj (V.toD ob n) l') := by
 simp only [V.toD]; cases Xbj (V.toD ob n) l <;> cases Xbj (V.toD ob n) l' <;> rfl
@[simp] theorem fnO_ss (l l' : List D) : fnO f (some l) (some l') = some (.fn f l l') := by simp only [fnO]
@[simp] theorem toD_agg : V.toD ob (n + 1) (.agg vs) = (Xbj (V.toD ob n) vs).map .agg := by simp only [V.toD]
@[simp] theorem toDs_eq : V.toDs ob n vs = Xbj (V.toD ob n) vs := by simp only [V.toDs]
@[simp] theorem seqO_nil {α β : Type} (g : α → Option β) : Xbj g [] = some [] := by simp only [Xbj]
def Yam {β : Type} : Option β → Option (List β) → Option (List β)
 | some y, some l => some (y :: l)
 | _, _ => none
@[simp] theorem seqO_cons {α β : Type} (g : α → Option β) (a : α) (l : List α) : Xbj g (a :: l) = Yam (g a) (Xbj g l) := by
 simp only [Xbj]; cases g a <;> cases Xbj g l <;> rfl
@[simp] theorem seqC_ss {β : Type} (y : β) (l : List β) : Yam (some y) (some l) = some (y :: l) := by simp only [Yam]
end
attribute [simp] D.flat D.flats V.flat V.flatR
end Go.Ab
/- Functions that defer a call, and deferred functions that recover. Over any program; no condition. -/
namespace Go.Ab
open Go


structure DCall (P : Prg) (f : Nat) (vs : List V) (ob : Objs) (rv : Option V) (K : Objs → Prop) : Prop where
 ret : rv = none → ∀ w ρ args, OM w ρ ob → ρ.gl = P.g → V.reps w ρ vs args → CallsD P.p f args.toArray .returning w (fun e u w' => (∃ v, e = .returned v) ∧ u = .returning ∧ ∃ ob' ρ', K ob' ∧ OM w' ρ' ob' ∧ Tr w ρ w' ρ')
 pan : ∀ v, rv = some v → ∀ w ρ args x, OM w ρ ob → ρ.gl = P.g → V.reps w ρ vs args → v.rep w ρ x → (∃ t y, x = .iface t y) → CallsD P.p f args.toArray (.panicking [{ v := x, recovered := false }]) w
  (fun e u w' => (∃ v, e = .returned v) ∧ u = .panicking [{ v := x, recovered := true }] ∧ ∃ ob' ρ', K ob' ∧ OM w' ρ' ob' ∧ Tr w ρ w' ρ')

def X8g : Op → Bool
 | .call { callee := .builtin .recover, .. } => true
 | _ => false
def Xp6 (P : Program) (f n k : Nat) (its : List It) (s : S) : Bool := match P.funcs[f]? with
 | some fn => match fn.body with
  | some (.seq (.region _ ops false) code) => match ops.toList with
   | o :: os => decide (n ≤ fn.ntmps) && decide (k < fn.ntmps) && X8g o.op && o.dst == some k && o.guard.isNone && Wc P fn.ntmps ops os its && S.chk P fn.ntmps code s && fn.results.isEmpty
   | [] => false
  | _ => false
 | none => false

def dQ (n : Nat) (K : Objs → Prop) : W7
 | .normal, _, ob => Ys n K [] ob
 | .ret, _, ob => Ys n K [] ob
 | .panic _, _, _ => False
 | .exit _, _, _ => False

theorem Qu {P : Prg} {c : Ctx} (hg : P.g = c.g) {xo : Nat → Prop} {ops : Array Oper} {cs : List Frame} {Q : Exit → Act → List Frame → World → Prop} {K : Xc → Objs → Prop}
  (hK : ∀ sl ob ρ a w, K sl ob → Mod c xo ρ sl ob a w → Q .normal a cs w) :
  ∀ (l : List Oper) (j : Nat) (its : List It) (sl : Xc) (ob : Objs) (ρ : Env) (a : Act) (w : World), ops.toList.drop j = l → Wc P.p c.N ops l its = true → rwp P K (fun _ _ _ => False) its sl ob → Mod c xo ρ sl ob a w → wpOpsS P.p ops Q (List.range' j l.length) a cs w
 | [], j, [], sl, ob, ρ, a, w, _, _, h, m => by simp only [List.length_nil, List.range'_zero, wpOpsS]; exact hK sl ob ρ a w h m
 | o :: r, j, i :: s, sl, ob, ρ, a, w, hd, hc, h, m => by
  simp only [Wc, Bool.and_eq_true] at hc
  obtain ⟨h1, h2⟩ := hc
  have hj : ops[j]? = some o := by
   have := congrArg (·[0]?) hd
   simpa using this
  have hd' : ops.toList.drop (j + 1) = r := by
   have := congrArg (List.drop 1) hd
   simpa [List.drop_drop] using this
  have step : ∀ (d : Option Nat) (x : I) (sl : Xc), SM w ρ sl a → Xas c.N o.dst d = true → x.chk P.p o.op = true → x.wp P sl ob (fun v ob' => rwp P K (fun _ _ _ => False) s (put sl d v) ob') (fun v ob' => False) →
    o.wp P.p a w (fun a' w' => wpOpsS P.p ops Q (List.range' (j + 1) r.length) a' cs w') (fun e a' w' => Q e a' cs w') := by
   intro d x sl hs hd hx hw
   refine I.sound (m.gl.trans hg.symm) hs m.om hx hw o rfl _ _ (fun v y ob' w' ρ' hk hr ho t => ?_) (fun u y ob' w' ρ' hk hr ho t => hk.elim)
   obtain ⟨g1, g2, g3⟩ := Xq hd m.size (hs.tr t) hr
   exact Qu hg hK r (j + 1) s _ ob' ρ' _ w' hd' h2 hk ⟨m.base.tr t, ho, g1, g2, g3.trans m.df, t.xo.trans m.xo, t.gl.trans m.gl⟩
  have fin : o.wp P.p a w (fun a' w' => wpOpsS P.p ops Q (List.range' (j + 1) r.length) a' cs w') (fun e a' w' => Q e a' cs w') → Region.wanted o (yielded ops a.tmps) = true → wpOpsS P.p ops Q (List.range' j (r.length + 1)) a cs w := by
   intro hw hwant
   rw [List.range'_succ]
   simp only [wpOpsS, hj, hwant, if_true]
   unfold Oper.wp at hw
   split
   ·rename_i w' hrun
    rw [hrun] at hw
    exact hw.elim
   ·exact hw
  simp only [List.length_cons]
  cases i with
  | op d x =>
   simp only [It.chk, Bool.and_eq_true, Option.isNone_iff_eq_none] at h1
   simp only [rwp] at h
   exact fin (step d x sl m.sm h1.1.1 h1.2 h) (by simp [Region.wanted, h1.1.2])
  | gop g want d x =>
   simp only [It.chk, Bool.and_eq_true] at h1
   simp only [rwp] at h
   rcases Zw (ops := ops) m.sm h1.1.2 h with ⟨hw, sl', hs, h⟩ | ⟨hw, sl', hs, h⟩
   ·exact fin (step d x sl' hs h1.1.1 h1.2 h) hw
   ·rw [List.range'_succ]
    simp only [wpOpsS, hj, hw, Bool.false_eq_true, if_false]
    obtain ⟨g1, g2, g3⟩ := Xq h1.1.1 m.size hs (Zh.2 rfl)
    exact Qu hg hK r (j + 1) s _ ob ρ _ w hd' h2 h ⟨m.base, m.om, g1, g2, g3.trans m.df, m.xo, m.gl⟩
 | [], _, _ :: _, _, _, _, _, _, _, hc, _, _ => by simp [Wc] at hc
 | _ :: _, _, [], _, _, _, _, _, _, hc, _, _ => by simp [Wc] at hc

theorem Xee {P : Prg} (hm : P.p.follows .mixedOrders = true) {f k : Nat} {its : List It} {keep : List Nat} {s : S} {vs : List V} {ob : Objs} {rv : Option V} {K : Objs → Prop} (hc : Xp6 P.p f vs.length k its s = true)
  (h : rwp P (fun sl ob' => cwp P s (dQ (fresh ob) K) (Xi sl keep) ob') (fun _ _ _ => False) its ((k, rv.getD (.d .nili)) :: J2 0 vs) ob) : DCall P f vs ob rv K := by
 unfold Xp6 at hc
 split at hc
 ·rename_i fn hf
  split at hc
  ·rename_i id ops code hb
   split at hc
   ·rename_i o os hops
    simp only [Bool.and_eq_true, decide_eq_true_eq, Option.isNone_iff_eq_none, beq_iff_eq] at hc
    obtain ⟨⟨⟨⟨⟨⟨⟨hn, hk⟩, hrec⟩, hdst⟩, hgd⟩, hits⟩, hs⟩, hres⟩ := hc
    have hemp : fn.results = #[] := by simpa using hres
    have hres' : ∀ (t : Array Value) (w : World), (results fn t).run P.p w = .ok (.tuple #[]) w := fun t w => by simp [results, hemp]
    have hop : ∃ args ts, o.op = .call { callee := .builtin .recover, args := args, argTypes := ts } := by
     revert hrec; generalize o.op = op; intro hrec
     unfold X8g at hrec
     split at hrec
     ·exact ⟨_, _, rfl⟩
     ·simp at hrec
    obtain ⟨rargs, rts, hop⟩ := hop
    have hrun : ∀ (a : Act) (w : World), (execOp a.eval o).run P.p w = .ok .recover w := fun a w => by
     simp [execOp, hop, resolve, invoke, builtin]
    have ho0 : ops[0]? = some o := by
     have := congrArg (·[0]?) hops; simpa using this
    have hsize : ops.size = os.length + 1 := by
     have := congrArg List.length hops; simpa using this
    have hdrop : ops.toList.drop 1 = os := by rw [hops]; rfl
    have key : ∀ w ρ args, OM w ρ ob → ρ.gl = P.g → V.reps w ρ vs args → ∀ (u u' : FrameMode) (x : Value), (rv.getD (.d .nili)).rep w ρ x →
      (∀ (c0 : Frame) (cs : List Frame), c0.mode = u → (recoverD (c0 :: cs) = some (x, { c0 with mode := u' } :: cs)) ∨ (recoverD (c0 :: cs) = none ∧ x = .nilIface ∧ u' = u)) →
      CallsD P.p f args.toArray u w (fun e v w' => (∃ v, e = .returned v) ∧ v = u' ∧ ∃ ob' ρ', K ob' ∧ OM w' ρ' ob' ∧ Tr w ρ w' ρ') := by
     intro w ρ args hO hg hr u u' x hx hrecD
     refine callsD_of_wpS hf hb fun c0 cs hc0 => ?_
     let c : Ctx := ⟨w, Xna ρ, fn.ntmps, [], P.g, ρ.m, []⟩
     have hlen : args.length = vs.length := by simpa using Zx hr
     have m : Mod c ρ.xo ρ (J2 0 vs) ob { tmps := args.toArray ++ Array.replicate (fn.ntmps - args.toArray.size) undef, defers := [] } w := by
      refine ⟨⟨Nat.le_refl _, fun _ _ _ => rfl, fun b h => .inr h, rfl, rfl, rfl, fun id o h => ⟨o, h, .refl o⟩, (fun p hp => by cases hp)⟩, hO, ?_, ?_, rfl, rfl, hg⟩
      ·refine Jq hr 0 _ (fun i hi => ?_)
       simp [Array.getElem?_append, hi]
      ·simp [c]; omega
     have hout : ∀ (e : Exit) (a' : Act) (w' : World) cs', cs' = { c0 with mode := u' } :: cs → lift c ρ.xo (dQ (fresh ob) K) e a' w' → bodyPostS P.p fn c0 cs (fun e v w' => (∃ v, e = .returned v) ∧ v = u' ∧ ∃ ob' ρ', K ob' ∧ OM w' ρ' ob' ∧ Tr w ρ w' ρ') e a' cs' w' := by
      rintro e a' w' cs' rfl ⟨ae, sl', ob', ρ', hq, he, m'⟩
      have old : ∀ kp id o, ρ.m id = some o → young (fresh ob) kp id = false := fun kp id o h0 => by
       obtain ⟨x, hx⟩ := hO.dom id o h0
       have hlt : ¬ fresh ob ≤ id := fun hle => by rw [Yd _ _ hle] at hx; cases hx
       simp [young, hlt]
      have tr : ∀ kp, Tr w ρ w' (ρ'.del (young (fresh ob) kp)) := fun kp => by
       have b2 := m'.base
       refine ⟨b2.size, fun b h1 h2 => b2.keep b h2 h1, fun b h1 => (b2.owns b (Uy h1)).symm, ?_, ?_, fun id o h1 => ?_, b2.tape, b2.os, b2.out⟩
       ·show ρ'.xo = ρ.xo; rw [m'.xo]
       ·show ρ'.gl = ρ.gl; rw [m'.gl, hg]
       ·obtain ⟨o', h3, h4⟩ := b2.same id o h1
        exact ⟨o', by simp only [Env.del, old kp id o h1]; exact h3, h4⟩
      have hfin : Ys (fresh ob) K [] ob' → a'.defers = [] ∧ ∃ u'', { c0 with mode := u' } :: cs = { c0 with mode := u'' } :: cs ∧ ∃ v, (results fn a'.tmps).run P.p w' = .ok v w' ∧ ((∃ v', Ending.returned v = .returned v') ∧ u'' = u' ∧ ∃ ob' ρ', K ob' ∧ OM w' ρ' ob' ∧ Tr w ρ w' ρ') := by
       rintro ⟨kp, _, k2, k3⟩
       exact ⟨m'.df, u', rfl, _, hres' _ _, ⟨_, rfl⟩, rfl, _, _, k3, m'.om.del k2, tr kp⟩
      cases ae with
      | normal => cases e <;> simp only [exM] at he; exact hfin hq
      | ret => cases e <;> simp only [exM] at he; exact hfin hq
      | exit n => exact hq.elim
      | panic v => exact hq.elim
     refine wpS_seq (wpS_region ?_)
     have hrange : List.range ops.size = 0 :: List.range' 1 os.length := by
      rw [List.range_eq_range', hsize, List.range'_succ]
     rw [hrange]
     have hwant : ∀ a : Act, Region.wanted o (yielded ops a.tmps) = true := fun a => by simp [Region.wanted, hgd]
     have hput : ∀ cs' : List Frame, cs' = { c0 with mode := u' } :: cs → wpOpsS P.p ops (Exit.thenS (code.wpS P.p (bodyPostS P.p fn c0 cs (fun e v w' => (∃ v, e = .returned v) ∧ v = u' ∧ ∃ ob' ρ', K ob' ∧ OM w' ρ' ob' ∧ Tr w ρ w' ρ'))) (bodyPostS P.p fn c0 cs (fun e v w' => (∃ v, e = .returned v) ∧ v = u' ∧ ∃ ob' ρ', K ob' ∧ OM w' ρ' ob' ∧ Tr w ρ w' ρ'))) (List.range' 1 os.length)
       (({ tmps := args.toArray ++ Array.replicate (fn.ntmps - args.toArray.size) undef, defers := [] } : Act).put o.dst x) cs' w := by
      intro cs' hcs'
      obtain ⟨g1, g2, g3⟩ := Xq (d := some k) (o := o.dst) (v := x) (N := fn.ntmps) (by simp [Xas, hdst, hk]) m.size m.sm hx
      refine Qu (c := c) (xo := ρ.xo) rfl (fun sl ob1 ρ1 a1 w1 hk1 m1 => ?_) os 1 its _ ob ρ _ w hdrop hits h ⟨m.base, m.om, g1, g2, g3, m.xo, m.gl⟩
      simp only [Exit.thenS]
      exact wpS_of_wp (wp_mono (Yn hm rfl code s _ _ _ ρ1 a1 w1 hs hk1 ⟨m1.base, m1.om, m1.sm.keep keep, m1.size, m1.df, m1.xo, m1.gl⟩) (fun e a' w' hl => hout e a' w' cs' hcs' hl))
     have hwant0 : Region.wanted o (yielded ops (args.toArray ++ Array.replicate (fn.ntmps - args.toArray.size) undef)) = true := hwant { tmps := args.toArray ++ Array.replicate (fn.ntmps - args.toArray.size) undef, defers := [] }
     simp only [wpOpsS, ho0, hwant0, if_true, hrun]
     rcases hrecD c0 cs hc0 with hr1 | ⟨hr1, hx1, hu1⟩
     ·rw [hr1]; exact hput _ rfl
     ·rw [hr1]
      subst hx1
      refine hput _ ?_
      subst hu1; cases c0; simp only at hc0; subst hc0; rfl
    refine ⟨fun he w ρ args hO hg hr => ?_, fun v he w ρ args x hO hg hr hx hix => ?_⟩
    ·subst he
     exact key w ρ args hO hg hr .returning .returning .nilIface (Xbw.2 rfl) (fun c0 cs hc0 => .inr ⟨by simp [recoverD, hc0], rfl, rfl⟩)
    ·subst he
     exact key w ρ args hO hg hr _ _ x hx (fun c0 cs hc0 => .inl (by simp [recoverD, hc0]))
   ·simp at hc
  ·simp at hc
 ·simp at hc


inductive FSt where
 | pre (s : S) (r : FSt)
 | dfr (its : List It) (keep : List Nat) (k : Nat) (s : S)

def X64 (k : Nat) : Op → Bool
 | .defer { callee := .value (.tmp j), args := args, .. } => j == k && args.isEmpty
 | _ => false
def FSt.chk (P : Program) (N : Nat) : Code → FSt → Bool
 | .seq a b, .pre s r => S.chk P N a s && FSt.chk P N b r
 | .seq (.region _ ops false) b, .dfr its _ k s => match ops.toList.reverse with
  | o :: os => X64 k o.op && o.dst.isNone && o.guard.isNone && Wc P N ops os.reverse its && S.chk P N b s
  | [] => false
 | _, _ => false

def Xfv (P : Prg) (g : Nat) (cl : List V) (rs : List RV) (K : V → Prop) : W7
 | .normal, sl, ob => DCall P g cl ob none fun ob' => W8 sl ob' rs fun vs => Ww (fun l _ => K (V2 (l.map .d))) (V.givs ob' vs)
 | .ret, sl, ob => DCall P g cl ob none fun ob' => W8 sl ob' rs fun vs => Ww (fun l _ => K (V2 (l.map .d))) (V.givs ob' vs)
 | .panic v, sl, ob => (∃ t y, v = .iface t y ∨ ∃ z, v = .d (.iface t z)) ∧ DCall P g cl ob (some v) fun ob' => W8 sl ob' rs fun vs => Ww (fun l _ => K (V2 (l.map .d))) (V.givs ob' vs)
 | .exit _, _, _ => False
def X72 (P : Prg) (s : S) (rs : List RV) (K : V → Prop) (sl : Xc) (ob : Objs) : V → Prop
 | .fn g fi ca => Xh P.p g = true ∧ cwp P s (Xfv P g (fi ++ ca) rs K) sl ob
 | _ => False
def fwp (P : Prg) (rs : List RV) (K : V → Prop) : FSt → Xc → Objs → Prop
 | .pre s r, sl, ob => cwp P s (Ub (fwp P rs K r) (Xci rs K)) sl ob
 | .dfr its keep k s, sl, ob => rwp P (fun sl ob => X72 P s rs K (Xi sl keep) ob (look (Xi sl keep) k)) (fun _ _ _ => False) its sl ob

def Xpu (P : Program) (f n : Nat) (s : FSt) (rs : List RV) : Bool := match P.funcs[f]? with
 | some fn => match fn.body with
  | some code => decide (n ≤ fn.ntmps) && FSt.chk P fn.ntmps code s && Qf P fn.results.toList rs
  | none => false
 | none => false

theorem Xda {P : Prg} {c : Ctx} (hg : P.g = c.g) {xo : Nat → Prop} {ops : Array Oper} {Q : Exit → Act → World → Prop} {K : Xc → Objs → Prop} {l' : List Oper}
  (hK : ∀ sl ob ρ a w, K sl ob → Mod c xo ρ sl ob a w → wpList P.p ops Q l' a w) :
  ∀ (l : List Oper) (its : List It) (sl : Xc) (ob : Objs) (ρ : Env) (a : Act) (w : World), Wc P.p c.N ops l its = true → rwp P K (fun _ _ _ => False) its sl ob → Mod c xo ρ sl ob a w → wpList P.p ops Q (l ++ l') a w
 | [], [], sl, ob, ρ, a, w, _, h, m => by simp only [List.nil_append]; exact hK sl ob ρ a w h m
 | o :: r, i :: s, sl, ob, ρ, a, w, hc, h, m => by
  simp only [Wc, Bool.and_eq_true] at hc
  obtain ⟨h1, h2⟩ := hc
  have step : ∀ (d : Option Nat) (x : I) (sl : Xc), SM w ρ sl a → Xas c.N o.dst d = true → x.chk P.p o.op = true → x.wp P sl ob (fun v ob' => rwp P K (fun _ _ _ => False) s (put sl d v) ob') (fun v ob' => False) → o.wp P.p a w (wpList P.p ops Q (r ++ l')) Q := by
   intro d x sl hs hd hx hw
   refine I.sound (m.gl.trans hg.symm) hs m.om hx hw o rfl _ _ (fun v y ob' w' ρ' hk hr ho t => ?_) (fun u y ob' w' ρ' hk hr ho t => hk.elim)
   obtain ⟨g1, g2, g3⟩ := Xq hd m.size (hs.tr t) hr
   exact Xda hg hK r s _ ob' ρ' _ w' h2 hk ⟨m.base.tr t, ho, g1, g2, g3.trans m.df, t.xo.trans m.xo, t.gl.trans m.gl⟩
  simp only [List.cons_append]
  cases i with
  | op d x =>
   simp only [It.chk, Bool.and_eq_true, Option.isNone_iff_eq_none] at h1
   simp only [rwp] at h
   simp only [wpList, Region.wanted, h1.1.2, if_true]
   exact .inl (step d x sl m.sm h1.1.1 h1.2 h)
  | gop g want d x =>
   simp only [It.chk, Bool.and_eq_true] at h1
   simp only [rwp] at h
   simp only [wpList]
   rcases Zw (ops := ops) m.sm h1.1.2 h with ⟨hw, sl', hs, h⟩ | ⟨hw, sl', hs, h⟩
   ·rw [if_pos hw]
    exact .inl (step d x sl' hs h1.1.1 h1.2 h)
   ·rw [hw]
    simp only [Bool.false_eq_true, if_false]
    obtain ⟨g1, g2, g3⟩ := Xq h1.1.1 m.size hs (Zh.2 rfl)
    exact Xda hg hK r s _ ob ρ _ w h2 h ⟨m.base, m.om, g1, g2, g3.trans m.df, m.xo, m.gl⟩
 | [], _ :: _, _, _, _, _, _, hc, _, _ => by simp [Wc] at hc
 | _ :: _, [], _, _, _, _, _, hc, _, _ => by simp [Wc] at hc

section
variable {P : Prg} {w0 : World} {ρ0 : Env}
def Xx9 (w0 : World) (ρ0 : Env) (K : V → Prop) : Ending → World → Prop := fun e w' => ∃ v u, K v ∧ e = .returned u ∧ v.rep w' ρ0 u ∧ Ext w0 w'
theorem Xnk {c : Ctx} (h0 : c.w0 = w0) (hex : ∀ b, ¬ c.ex b) {w' : World} {ρ' : Env} {sl : Xc} {ob : Objs} {a : Act} {fn : Func} {rs : List RV} {K : V → Prop} (hb : Base c w' ρ') (ho : OM w' ρ' ob) (hs : SM w' ρ' sl a) (hx : ρ'.xo = own ρ0)
  (hc : Qf P.p fn.results.toList rs = true) (h : W8 sl ob rs fun vs => Ww (fun l _ => K (V2 (l.map .d))) (V.givs ob vs)) : ∃ v, (results fn a.tmps).run P.p w' = .ok v w' ∧ Xx9 w0 ρ0 K (.returned v) w' := by
 obtain ⟨vs, us, hk, hrep, hrun⟩ := Vt (P := P.p) (fn := fn) hs ho hc h
 cases hgv : V.givs ob vs with
 | none => simp [hgv, Ww] at hk
 | some q =>
  obtain ⟨l, ob2⟩ := q
  simp only [hgv, Ww] at hk
  obtain ⟨ρ2, t2, o2, hr2⟩ := Xam vs us ho hrep hgv
  have mo2 : Xgt w' (own ρ2) w' (own ρ0) := fun b h1 _ => ⟨rfl, fun h2 => h1 (.inr (by rw [t2.xo, hx]; exact h2))⟩
  have hrep' := Uk mo2 _ _ l rfl hr2
  have hext : Ext w0 w' := by subst h0; exact ⟨hb.size, fun b h => hb.keep b h (hex b), hb.tape, hb.os, hb.out⟩
  exact ⟨Xq1 us, hrun, V2 (l.map .d), Xq1 us, hk, rfl, Jp hrep', hext⟩

theorem Xhy (hm : P.p.follows .mixedOrders = true) {c : Ctx} (hg : P.g = c.g) (h0 : c.w0 = w0) (hex : ∀ b, ¬ c.ex b) (hdf : c.df = []) (hm0 : ∀ id, c.m0 id = none) {fn : Func} {rs : List RV} {K : V → Prop} (hres : Qf P.p fn.results.toList rs = true) :
  ∀ (code : Code) (s : FSt) (sl : Xc) (ob : Objs) (ρ : Env) (a : Act) (w : World), FSt.chk P.p c.N code s = true → fwp P rs K s sl ob → Mod c (own ρ0) ρ sl ob a w → code.wp P.p (bodyPostD P.p fn (Xx9 w0 ρ0 K)) a w
 | .seq x y, .pre s r, sl, ob, ρ, a, w, hc, h, m => by
  simp only [FSt.chk, Bool.and_eq_true] at hc
  simp only [fwp] at h
  refine wp_seq (wp_mono (Yn hm hg x s _ sl ob ρ a w hc.1 h m) ?_)
  rintro e a' w' ⟨ae, sl', ob', ρ', hq, he, m'⟩
  cases ae with
  | normal =>
   cases e <;> simp only [exM] at he
   exact Xhy hm hg h0 hex hdf hm0 hres y r sl' ob' ρ' a' w' hc.2 hq m'
  | exit n => exact hq.elim
  | ret =>
   cases e <;> simp only [exM] at he
   show Leaves _ _ _ _ a'.defers .returning w'
   rw [m'.df, hdf]
   exact Xnk h0 hex m'.base m'.om m'.sm m'.xo hres hq
  | panic v => exact hq.elim
 | .seq (.region id ops false) y, .dfr its keep k s, sl, ob, ρ, a, w, hc, h, m => by
  simp only [FSt.chk] at hc
  split at hc
  ·rename_i o os hops
   simp only [Bool.and_eq_true, Option.isNone_iff_eq_none] at hc
   obtain ⟨⟨⟨⟨hop, hdst⟩, hgd⟩, hits⟩, hs⟩ := hc
   simp only [fwp] at h
   have hl : ops.toList = os.reverse ++ [o] := by
    have := congrArg List.reverse hops; simpa using this
   refine wp_seq (wp_region_list ?_)
   rw [hl]
   refine Xda hg (fun sl0 ob1 ρ1 a1 w1 hk m0 => ?_) os.reverse its sl ob ρ a w hits h m
   have m1 : Mod c (own ρ0) ρ1 (Xi sl0 keep) ob1 a1 w1 := ⟨m0.base, m0.om, m0.sm.keep keep, m0.size, m0.df, m0.xo, m0.gl⟩
   generalize Xi sl0 keep = sl1 at hk m1
   unfold X72 at hk
   split at hk
   ·rename_i g fi ca e1
    obtain ⟨hcall, hk⟩ := hk
    have hrep := m1.sm k
    rw [e1] at hrep
    have hrep0 := hrep
    rw [Xco] at hrep
    obtain ⟨fs, gs, hv, hr1, hr2⟩ := hrep
    obtain ⟨args, ts, hop'⟩ : ∃ args ts, o.op = .defer { callee := .value (.tmp k), args := args, argTypes := ts } ∧ args = #[] := by
     revert hop; generalize o.op = op; intro hop
     unfold X64 at hop
     split at hop
     ·simp only [Bool.and_eq_true, beq_iff_eq] at hop
      obtain ⟨rfl, hop⟩ := hop
      exact ⟨_, _, rfl, by simpa using hop⟩
     ·simp at hop
    obtain ⟨hop', rfl⟩ := hop'
    let d : Deferred := { target := .fn (.func g) gs.toArray, args := fs.toArray ++ #[] }
    have hrun : (execOp a1.eval o).run P.p w1 = .ok (.defer d) w1 := by
     have : a1.eval (.tmp k) = .func (.func g) fs.toArray gs.toArray := hv
     simp [execOp, hop', resolve, this, Deferred.ofValue, d]
    simp only [wpList, Region.wanted, hgd, if_true]
    left
    unfold Oper.wp
    rw [hrun]
    simp only [Oper.upon, hdst, Act.put]
    let c2 : Ctx := ⟨c.w0, c.ex, c.N, [d], c.g, c.m0, [(.fn g fi ca, .func (.func g) fs.toArray gs.toArray)]⟩
    have m2 : Mod c2 (own ρ0) ρ1 sl1 ob1 { a1 with defers := d :: a1.defers } w1 := by
     refine ⟨⟨m1.base.size, m1.base.keep, m1.base.owns, m1.base.tape, m1.base.os, m1.base.out, m1.base.same, fun p hp => ?_⟩, m1.om, m1.sm, m1.size, ?_, m1.xo, m1.gl⟩
     ·simp only [c2, List.mem_singleton] at hp
      subst hp
      rw [hv] at hrep0
      exact hrep0
     ·show d :: a1.defers = [d]; rw [m1.df, hdf]
    show Code.wp _ _ _ _ _
    refine wp_mono (Yn hm (c := c2) hg y s _ _ _ ρ1 _ w1 hs hk m2) ?_
    rintro e a' w' ⟨ae, sl', ob', ρ', hq, he, m'⟩
    have hclo : V.reps w' ρ' (fi ++ ca) (fs ++ gs) := by
     have := m'.base.ext (.fn g fi ca, .func (.func g) fs.toArray gs.toArray) (by simp [c2])
     simp only at this
     rw [Xco] at this
     obtain ⟨fs', gs', e2, q1, q2⟩ := this
     simp only [Value.func.injEq, true_and] at e2
     obtain ⟨e3, e4⟩ := e2
     have e3 : fs = fs' := by simpa using congrArg Array.toList e3
     have e4 : gs = gs' := by simpa using congrArg Array.toList e4
     subst e3 e4
     exact Zu q1 q2
    have hinv : ∀ w, (invoke d.target d.args).run P.p w = .ok (.enter g (fs ++ gs).toArray) w := fun w => by
     simp only [d, invoke, Z4 hcall]
     simp
    have hd : a'.defers = [d] := m'.df
    have after : ∀ (w'' : World) (ob2 : Objs) (ρ2 : Env), (W8 sl' ob2 rs fun vs => Ww (fun l _ => K (V2 (l.map .d))) (V.givs ob2 vs)) → OM w'' ρ2 ob2 → Tr w' ρ' w'' ρ2 → Leaves P.p fn a'.tmps (Xx9 w0 ρ0 K) [] .returning w'' := by
     intro w'' ob2 ρ2 hq o2 t2
     exact Xnk (c := c2) h0 hex (m'.base.tr t2) o2 (m'.sm.tr t2) (t2.xo.trans m'.xo) hres hq
    have hgl : ρ'.gl = P.g := m'.gl.trans hg.symm
    have hret : DCall P g (fi ++ ca) ob' none (fun ob' => W8 sl' ob' rs fun vs => Ww (fun l _ => K (V2 (l.map .d))) (V.givs ob' vs)) → Leaves P.p fn a'.tmps (Xx9 w0 ρ0 K) a'.defers .returning w' := by
     intro hq
     rw [hd]
     refine leaves_cons (fv := .func g) (cap := gs.toArray) (dargs := fs.toArray ++ #[]) (by simp) (hinv w') ((hq.ret rfl w' ρ' (fs ++ gs) m'.om hgl hclo).mono ?_)
     rintro e u w'' ⟨⟨v, rfl⟩, rfl, ob2, ρ2, k2, o2, t2⟩
     exact after w'' ob2 ρ2 k2 o2 t2
    cases ae with
    | normal => cases e <;> simp only [exM] at he; exact hret hq
    | ret => cases e <;> simp only [exM] at he; exact hret hq
    | exit n => exact hq.elim
    | panic v =>
     cases e <;> simp only [exM] at he
     obtain ⟨u, rfl, hu⟩ := he
     obtain ⟨⟨t, y, hty⟩, hq⟩ := hq
     have hix : ∃ t y, u = .iface t y := by
      rcases hty with rfl | ⟨z, rfl⟩
      ·rw [Vr (by simp [V.isAgg]) (by simp)] at hu
       simp only [V.repC, List.cons.injEq, and_true] at hu
       obtain ⟨c, hu, _⟩ := hu
       exact ⟨_, _, hu⟩
      ·rw [J1] at hu
       obtain ⟨c, hu, _⟩ := hu
       exact ⟨_, _, hu⟩
     show Leaves _ _ _ _ a'.defers _ w'
     rw [hd]
     refine leaves_cons (fv := .func g) (cap := gs.toArray) (dargs := fs.toArray ++ #[]) (by simp) (hinv w') ((hq.pan v rfl w' ρ' (fs ++ gs) u m'.om hgl hclo hu hix).mono ?_)
     rintro e u' w'' ⟨⟨v', rfl⟩, rfl, ob2, ρ2, k2, o2, t2⟩
     exact after w'' ob2 ρ2 k2 o2 t2
   ·exact hk.elim
  ·simp at hc
 | .skip, _, _, _, _, _, _, hc, _, _ | .region _ _ _, _, _, _, _, _, _, hc, _, _ | .cond _ _ _, _, _, _, _, _, _, hc, _, _ | .block _ _, _, _, _, _, _, _, hc, _, _ | .loop _, _, _, _, _, _, _, hc, _, _ | .rangeFunc _ _ _ _, _, _, _, _, _, _, hc, _, _ | .exit _, _, _, _, _, _, _, hc, _, _ | .scope _, _, _, _, _, _, _, hc, _, _ | .label _, _, _, _, _, _, _, hc, _, _ | .goto _, _, _, _, _, _, _, hc, _, _ | .ret, _, _, _, _, _, _, hc, _, _ | .refuse _, _, _, _, _, _, _, hc, _, _ => by simp [FSt.chk] at hc
 | .seq (.region _ _ true) _, .dfr _ _ _ _, _, _, _, _, _, hc, _, _ | .seq .skip _, .dfr _ _ _ _, _, _, _, _, _, hc, _, _ | .seq (.seq _ _) _, .dfr _ _ _ _, _, _, _, _, _, hc, _, _ | .seq (.cond _ _ _) _, .dfr _ _ _ _, _, _, _, _, _, hc, _, _ | .seq (.block _ _) _, .dfr _ _ _ _, _, _, _, _, _, hc, _, _ | .seq (.loop _) _, .dfr _ _ _ _, _, _, _, _, _, hc, _, _ | .seq (.rangeFunc _ _ _ _) _, .dfr _ _ _ _, _, _, _, _, _, hc, _, _ | .seq (.exit _) _, .dfr _ _ _ _, _, _, _, _, _, hc, _, _ | .seq (.scope _) _, .dfr _ _ _ _, _, _, _, _, _, hc, _, _ | .seq (.label _) _, .dfr _ _ _ _, _, _, _, _, _, hc, _, _ | .seq (.goto _) _, .dfr _ _ _ _, _, _, _, _, _, hc, _, _ | .seq .ret _, .dfr _ _ _ _, _, _, _, _, _, hc, _, _ | .seq (.refuse _) _, .dfr _ _ _ _, _, _, _, _, _, hc, _, _ => by simp [FSt.chk] at hc

theorem Xcz (hm : P.p.follows .mixedOrders = true) {f : Nat} {s : FSt} {rs : List RV} {ds : List D} {ob0 : Objs} {K : V → Prop} (hc : Xpu P.p f ds.length s rs = true)
  (h : fwp P rs K s (J2 0 (ds.map .d)) []) : PCall P f (ds.map .d) ob0 K := by
 unfold Xpu at hc
 split at hc
 ·rename_i fn hf
  split at hc
  ·rename_i code hb
   simp only [Bool.and_eq_true, decide_eq_true_eq] at hc
   obtain ⟨⟨hn, h1⟩, h2⟩ := hc
   refine ⟨fun w ρ args hO hg hr => ?_⟩
   let ρ1 : Env := ⟨fun _ => none, own ρ, ρ.gl⟩
   let c : Ctx := ⟨w, fun _ => False, fn.ntmps, [], P.g, fun _ => none, []⟩
   have hnone : ∀ b, ¬ Xna ρ1 b := fun b ⟨_, _, h, _⟩ => by cases h
   have hlt : ∀ b, own ρ b → b < w.heap.size := fun b h => h.elim (fun ⟨_, _, h1, h2⟩ => Qk hO h1 h2) (hO.xlt b)
   have mo : Xgt w (own ρ) w (own ρ1) := fun b h1 _ => ⟨rfl, fun h2 => h2.elim (hnone b) h1⟩
   have hr0 := Uk mo _ _ ds rfl hr
   have hlen : args.length = ds.length := by simpa using Zx hr
   have m : Mod c (own ρ) ρ1 (J2 0 (ds.map .d)) [] { tmps := args.toArray ++ Array.replicate (fn.ntmps - args.toArray.size) undef, defers := [] } w := by
    refine ⟨⟨Nat.le_refl _, fun _ _ _ => rfl, fun b h => absurd h (hnone b), rfl, rfl, rfl, (fun id o h => by cases h), (fun p hp => by cases hp)⟩, ⟨fun j x hx => (by simp [lookO] at hx), fun j o hj => (by cases hj), fun i j o p b hi => (by cases hi), fun b hb => hlt b hb, fun b o hb => ⟨(hO.glb b o hb).1, fun h => h.elim (hnone b) (hO.glb b o hb).2⟩, fun b hb => absurd hb (hnone b), trivial⟩, ?_, ?_, rfl, rfl, hg⟩
    ·refine Jq hr0 0 _ (fun i hi => ?_)
     simp [Array.getElem?_append, hi]
    ·simp [c]; omega
   exact calls_of_wp_defers hf hb (Xhy (w0 := w) (ρ0 := ρ) hm (c := c) rfl rfl (fun _ h => h) rfl (fun _ => rfl) h2 code s _ _ _ _ w h1 h m)
  ·simp at hc
 ·simp at hc
end

inductive FS2 where
 | pre (s : S2) (r : FS2)
 | dfr (l : List It2) (keep : List (Nat × E)) (k : Nat) (s : S2)
def FSt.lift (fs : List Nat) : FSt → Option FS2
 | .pre s r => match s.lift fs, r.lift fs with
  | some s, some r => some (.pre s r)
  | _, _ => none
 | .dfr its kp k s => match Jy fs kp [] its [] [] [], s.lift fs with
  | some (l, keep), some s => some (.dfr l keep k s)
  | _, _ => none
def Xe0 (P : Prg) (T : Tab) (s : S2) (rs : List RV) (K : V → Prop) (sl : Xc) (ob : Objs) : V → Prop
 | .fn g fi ca => Xh P.p g = true ∧ Wk P T s (Xfv P g (fi ++ ca) rs K) sl ob
 | _ => False
def Xqc (P : Prg) (T : Tab) (rs : List RV) (K : V → Prop) : FS2 → Xc → Objs → Prop
 | .pre s r, sl, ob => Wk P T s (Ub (Xqc P T rs K r) (Xci rs K)) sl ob
 | .dfr l keep k s, sl, ob => Vk P T (fun sl ob => Wv T sl ob keep ∧ Xe0 P T s rs K (V9 T sl ob keep) ob (look (V9 T sl ob keep) k)) (fun _ _ _ => False) l sl ob

theorem Yjj {T : Tab} {sl : Xc} {ob : Objs} : Inv T [] sl sl ob := fun k p e h => by
 simp [ent, Wa] at h; obtain ⟨rfl, rfl⟩ := h; exact ⟨fun _ => rfl, fun h => by cases h⟩

theorem FSt.lift_sound {P : Prg} {T : Tab} (hT : TOk P T) {fs : List Nat} {rs : List RV} {K : V → Prop} : ∀ (s : FSt) {s2 : FS2} {sl : Xc} {ob : Objs}, s.lift fs = some s2 → Xqc P T rs K s2 sl ob → fwp P rs K s sl ob
 | .pre s r, s2, sl, ob, h, hc => by
  simp only [FSt.lift] at h
  split at h
  ·rename_i s' r' hs hr
   cases h
   simp only [Xqc] at hc
   simp only [fwp]
   refine S.lift_sound hT s hs (fun e sl ob h => ?_) hc
   cases e with
   | normal => exact FSt.lift_sound hT r hr h
   | _ => exact h
  ·cases h
 | .dfr its kp k s, s2, sl, ob, h, hc => by
  simp only [FSt.lift] at h
  split at h
  ·rename_i l keep s' hl hs
   cases h
   simp only [Xqc] at hc
   simp only [fwp]
   have hmono : ∀ sl ob, Xe0 P T s' rs K sl ob (look sl k) → X72 P s rs K sl ob (look sl k) := fun sl ob h => by
    unfold Xe0 at h
    split at h
    ·rename_i g fi ca e1
     simp only [X72, e1]
     exact ⟨h.1, S.lift_sound hT s hs (fun _ _ _ h => h) h.2⟩
    ·exact h.elim
   have := Yu (pk := []) hT (K := fun sl ob => Xe0 P T s' rs K sl ob (look sl k)) (K' := fun sl ob => X72 P s rs K sl ob (look sl k)) (Pn := fun _ _ _ => False) (Pn' := fun _ _ _ => False) hmono (fun _ _ _ h => h) its Yjj hl hc
   exact this
  ·cases h

theorem V7 {P : Prg} {p : Program} (hP : P.p = p) (hm : p.follows .mixedOrders = true) {f : Nat} {s : FSt} {rs : List RV} {ds : List D} {ob0 : Objs} {K : V → Prop} {fs : List Nat} {s2 : FS2} {T : Tab} (hc : Xpu p f ds.length s rs = true) (hl : s.lift fs = some s2) (hT : TOk P T)
  (h : Xqc P T rs K s2 (J2 0 (ds.map .d)) []) : PCall P f (ds.map .d) ob0 K := by
 subst hP
 exact Xcz hm hc (FSt.lift_sound hT s hl h)

theorem U1 {P : Prg} {p : Program} (hP : P.p = p) (hm : p.follows .mixedOrders = true) {f k : Nat} {its : List It} {s : S} {vs : List V} {ob : Objs} {rv : Option V} {K : Objs → Prop} {fs keep : List Nat} {l : List It2} {kp : List (Nat × E)} {s2 : S2} {T : Tab} (hc : Xp6 p f vs.length k its s = true)
  (hl : Jy fs keep [] its [] [] [] = some (l, kp)) (hs : s.lift fs = some s2) (hT : TOk P T)
  (h : Vk P T (fun sl ob' => Wv T sl ob' kp ∧ Wk P T s2 (dQ (fresh ob) K) (V9 T sl ob' kp) ob') (fun _ _ _ => False) l ((k, rv.getD (.d .nili)) :: J2 0 vs) ob) : DCall P f vs ob rv K := by
 subst hP
 refine Xee hm (keep := keep) hc ?_
 have := Yu (pk := []) hT (K := fun sl ob' => Wk P T s2 (dQ (fresh ob) K) sl ob') (K' := fun sl ob' => cwp P s (dQ (fresh ob) K) sl ob') (Pn := fun _ _ _ => False) (Pn' := fun _ _ _ => False) (fun sl ob h => S.lift_sound hT s hs (fun _ _ _ h => h) h) (fun _ _ _ h => h) its Yjj hl h
 exact this

section
variable (P : Prg) (T : Tab) (sl : Xc) (ob : Objs) (rs : List RV) (K : V → Prop) (KB : Objs → Prop) (n k g : Nat) (v : V) (cl : List V)
@[simp] theorem fwp2_pre (s : S2) (r : FS2) : Xqc P T rs K (.pre s r) sl ob = Wk P T s (Ub (Xqc P T rs K r) (Xci rs K)) sl ob := by simp only [Xqc]
@[simp] theorem fwp2_dfr (l : List It2) (kp : List (Nat × E)) (s : S2) : Xqc P T rs K (.dfr l kp k s) sl ob = Vk P T (fun sl ob => Wv T sl ob kp ∧ Xe0 P T s rs K (V9 T sl ob kp) ob (look (V9 T sl ob kp) k)) (fun _ _ _ => False) l sl ob := by simp only [Xqc]
@[simp] theorem dfrK2_f (s : S2) (fi ca : List V) : Xe0 P T s rs K sl ob (.fn g fi ca) = (Xh P.p g = true ∧ Wk P T s (Xfv P g (fi ++ ca) rs K) sl ob) := by simp only [Xe0]
@[simp] theorem dferQ_r : Xfv P g cl rs K .ret sl ob = DCall P g cl ob none fun ob' => W8 sl ob' rs fun vs => Ww (fun l _ => K (V2 (l.map .d))) (V.givs ob' vs) := by simp only [Xfv]
theorem X3y : Xfv P g cl rs K (.panic v) sl ob = ((∃ t y, v = .iface t y ∨ ∃ z, v = .d (.iface t z)) ∧ DCall P g cl ob (some v) fun ob' => W8 sl ob' rs fun vs => Ww (fun l _ => K (V2 (l.map .d))) (V.givs ob' vs)) := by simp only [Xfv]
@[simp] theorem dferQ_pd (t : Nat) (z : D) : Xfv P g cl rs K (.panic (.d (.iface t z))) sl ob = DCall P g cl ob (some (.d (.iface t z))) fun ob' => W8 sl ob' rs fun vs => Ww (fun l _ => K (V2 (l.map .d))) (V.givs ob' vs) := by
 rw [X3y, eq_iff_iff]; exact ⟨fun h => h.2, fun h => ⟨⟨t, .any, .inr ⟨z, rfl⟩⟩, h⟩⟩
@[simp] theorem dQ_n : dQ n KB .normal sl ob = Ys n KB [] ob := by simp only [dQ]
@[simp] theorem dQ_p : dQ n KB (.panic v) sl ob = False := by simp only [dQ]
end
@[congr] theorem DCall_congr {P : Prg} {f : Nat} {vs vs' : List V} {ob ob' : Objs} {rv rv' : Option V} {K : Objs → Prop} (h : vs = vs') (h' : ob = ob') (h2 : rv = rv') : DCall P f vs ob rv K = DCall P f vs' ob' rv' K := by rw [h, h', h2]
@[congr] theorem dfrK2_congr {P : Prg} {T : Tab} {s : S2} {rs : List RV} {K : V → Prop} {sl sl' : Xc} {ob ob' : Objs} {v v' : V} (h : sl = sl') (h' : ob = ob') (h2 : v = v') : Xe0 P T s rs K sl ob v = Xe0 P T s rs K sl' ob' v' := by rw [h, h', h2]
@[congr] theorem fwp2_congr {P : Prg} {T : Tab} {rs : List RV} {K : V → Prop} {s : FS2} {sl sl' : Xc} {ob ob' : Objs} (h : sl = sl') (h' : ob = ob') : Xqc P T rs K s sl ob = Xqc P T rs K s sl' ob' := by rw [h, h']
end Go.Ab
/- More equations for states. Over any program; no condition. -/
namespace Go.Ab
open Go
section
variable {ob : Objs} {n k : Nat} {l : List Nat}
theorem Xxy (h : k < n) : young n l k = false := by simp [young]; omega
@[simp] theorem Jj (h : fresh ob ≤ n) : Z6 (young n l) ob = ob := by
 induction ob with
 | nil => rfl
 | cons e r ih =>
  obtain ⟨i, y⟩ := e
  simp only [fresh] at h
  have hi : i < n ∧ fresh r ≤ n := by split at h <;> omega
  simp only [Z6, Xxy hi.1, Bool.false_eq_true, if_false, ih hi.2]
@[simp] theorem young_old_add (m : Nat) (h : (lookO ob k).isSome = true) : young (fresh ob + m) l k = false := by
 have : k < fresh ob := by
  rcases Nat.lt_or_ge k (fresh ob) with h1 | h1
  ·exact h1
  ·rw [Yd ob k h1] at h; cases h
 simp [young]; omega
mutual
theorem V.men_mono {p q : Nat → Bool} (h : ∀ j, q j = false → p j = false) : ∀ v : V, V.men q v = false → V.men p v = false
 | .d _, _ => rfl
 | .ptr id _, e => h id e
 | .sl id _, e => h id e
 | .sd id _, e => h id e
 | .mp id, e => h id e
 | .ep id _ _ _ _, e => h id e
 | .fn _ a b, e => by
  simp only [V.men, Bool.or_eq_false_iff] at e ⊢
  exact ⟨V.mens_mono h a e.1, V.mens_mono h b e.2⟩
 | .agg xs, e => by simp only [V.men] at e ⊢; exact V.mens_mono h xs e
 | .iface _ v, e => by simp only [V.men] at e ⊢; exact V.men_mono h v e
 | .tup xs, e => by simp only [V.men] at e ⊢; exact V.mens_mono h xs e
 | .undef, _ => rfl
 | .any, _ => rfl
theorem V.mens_mono {p q : Nat → Bool} (h : ∀ j, q j = false → p j = false) : ∀ xs : List V, V.mens q xs = false → V.mens p xs = false
 | [], _ => rfl
 | x :: r, e => by
  simp only [V.mens, Bool.or_eq_false_iff] at e ⊢
  exact ⟨V.men_mono h x e.1, V.mens_mono h r e.2⟩
end
theorem Xd7 {p q : Nat → Bool} (h : ∀ j, q j = false → p j = false) : ∀ xs : List (D × V), Qa q xs = false → Qa p xs = false
 | [], _ => rfl
 | (_, x) :: r, e => by
  simp only [Qa, Bool.or_eq_false_iff] at e ⊢
  exact ⟨V.men_mono h x e.1, Xd7 h r e.2⟩
theorem noMenO_mono {p q : Nat → Bool} (h : ∀ j, q j = false → p j = false) : ∀ ob : Objs, noMenO q ob = true → noMenO p ob = true
 | [], _ => rfl
 | (_, .box _ t) :: r, e => by
  simp only [noMenO, Bool.and_eq_true, Bool.not_eq_true'] at e ⊢
  exact ⟨V.men_mono h t e.1, noMenO_mono h r e.2⟩
 | (_, .vec _ _ t) :: r, e => by
  simp only [noMenO, Bool.and_eq_true, Bool.not_eq_true'] at e ⊢
  exact ⟨V.mens_mono h t e.1, noMenO_mono h r e.2⟩
 | (_, .map t) :: r, e => by
  simp only [noMenO, Bool.and_eq_true, Bool.not_eq_true'] at e ⊢
  exact ⟨Xd7 h t e.1, noMenO_mono h r e.2⟩
 | (_, .arr _ _ _) :: r, e => by simp only [noMenO] at e ⊢; exact noMenO_mono h r e
 | (_, .gone) :: r, e => by simp only [noMenO] at e ⊢; exact noMenO_mono h r e
theorem Xuh (h : ∀ kp, noMenO (young (fresh ob) kp) ob = true) (hn : fresh ob ≤ n) : noMenO (young n l) ob = true :=
 noMenO_mono (fun j e => by simp [young] at e ⊢; intro hj; exact e (by omega)) ob (h l)
theorem Xm (m : Nat) (h : ∀ kp, noMenO (young (fresh ob) kp) ob = true) : noMenO (young (fresh ob + m) l) ob = true := Xuh h (by omega)
theorem DCall.of_wf {P : Prg} {f : Nat} {vs : List V} {ob : Objs} {rv : Option V} {K : Objs → Prop} (h : (∀ kp, V.mens (young (fresh ob) kp) vs = false) → (∀ kp, noMenO (young (fresh ob) kp) ob = true) → DCall P f vs ob rv K) : DCall P f vs ob rv K := by
 have key : ∀ w ρ args, OM w ρ ob → V.reps w ρ vs args → DCall P f vs ob rv K := fun w ρ args hO hr => by
  have old : ∀ kp id o, ρ.m id = some o → young (fresh ob) kp id = false := fun kp id o h0 => by
   obtain ⟨x, hx⟩ := hO.dom id o h0
   have hlt : ¬ fresh ob ≤ id := fun hle => by rw [Yd _ _ hle] at hx; cases hx
   simp [young, hlt]
  exact h (fun kp => V.mens_dom (old kp) _ _ hr) (fun kp => Wr ob fun e he => (hO.one e.1 _ (hO.once.look e he)).noMen (old kp))
 exact ⟨fun e w ρ args hO hg hr => (key w ρ args hO hr).ret e w ρ args hO hg hr, fun v e w ρ args x hO hg hr hv hi => (key w ρ args hO hr).pan v e w ρ args x hO hg hr hv hi⟩
end
end Go.Ab
/- More equations: orders, maps, package variables, comparisons. Over any program; no condition. -/
namespace Go.Ab
open Go
section
variable {P : Prg} {T : Tab} {sl : Xc} {ob : Objs} {K : Xc → Objs → Prop} {Pn : V → Xc → Objs → Prop}
@[simp] theorem zl : owp P K Pn .done sl ob = K sl ob := by simp only [owp]
@[simp] theorem zm (i : Nat) (x : It) (r : Ot) : owp P K Pn (.one i x r) sl ob = itK P (owp P K Pn r) Pn x sl ob := by simp only [owp]
@[simp] theorem zk (l : Ots) : owp P K Pn (.br l) sl ob = Xgv P K Pn l sl ob := by simp only [owp]
@[simp] theorem zo : Xgv P K Pn .nil sl ob = True := by simp only [Xgv]
@[simp] theorem zn (i : Nat) (x : It) (r : Ot) (l : Ots) : Xgv P K Pn (.cons i x r l) sl ob = (itK P (owp P K Pn r) Pn x sl ob ∧ Xgv P K Pn l sl ob) := by simp only [Xgv]
@[simp] theorem qq (d : Option Nat) (i : I) : itK P K Pn (.op d i) sl ob = i.wp P sl ob (fun v ob' => K (put sl d v) ob') (fun v ob' => Pn v sl ob') := by simp only [itK]
@[simp] theorem qp (s : Nat) (b : Bool) (d : Option Nat) (i : I) : itK P K Pn (.gop s b d i) sl ob = gdK s b sl (fun sl => i.wp P sl ob (fun v ob' => K (put sl d v) ob') (fun v ob' => Pn v sl ob')) (fun sl => K (put sl d .undef) ob) (look sl s) := by simp only [itK]
@[simp] theorem qm (t : Ot) (kp pk : List Nat) (Q : W7) : Wk P T (.rgT t kp pk) Q sl ob = owp P (fun sl ob => Q .normal (Xi sl kp) ob) (fun v sl ob => Q (.panic v) (Xi sl pk) ob) t sl ob := by simp only [Wk]
variable {KO PO : V → Objs → Prop} {KV : V → Prop}
@[simp] theorem iwp_mkm (r : Option A) : I.wp P sl ob KO PO (.mkm r) = (X0z sl r ∧ KO (.mp (fresh ob)) ((fresh ob, .map []) :: ob)) := by simp only [I.wp]
@[simp] theorem iwp_lkp (kd z : D) (ok : Bool) (m k : A) : I.wp P sl ob KO PO (.lkp kd z ok m k) = Xwr ob kd z ok (fun v => KO v ob) (m.ev sl) (k.ev sl) := by simp only [I.wp]
@[simp] theorem iwp_mset (kd : D) (m k v : A) : I.wp P sl ob KO PO (.mset kd m k v) = Xcw ob kd (v.ev sl) KO (m.ev sl) (k.ev sl) := by simp only [I.wp]
@[simp] theorem qz (g n : Nat) (ag : Bool) (x : D) : I.wp P sl ob KO PO (.gld g n ag x) = (GlobIs P g x ∧ x.sz = n ∧ (V.d x).isAgg = ag ∧ KO (.d x) ob) := by simp only [I.wp]
@[simp] theorem mkmK_none : X0z sl none = True := by simp only [X0z]
@[simp] theorem lkpK_mp (kd z k : D) (ok : Bool) (id : Nat) : Xwr ob kd z ok KV (.mp id) (.d k) = Xer kd z ok k KV (lookO ob id) := by simp only [Xwr]
@[simp] theorem lkpKo_map (kd z k : D) (ok : Bool) (es : List (D × V)) : Xer kd z ok k KV (some (.map es)) = (Qe kd k es ∧ KV (Xyc z ok (Xbn k es))) := by simp only [Xer]
@[simp] theorem msetK_mp (kd k : D) (v : V) (id : Nat) : Xcw ob kd v KO (.mp id) (.d k) = Jf ob id kd k v KO (lookO ob id) := by simp only [Xcw]
@[simp] theorem msetKo_map (kd k : D) (v : V) (id : Nat) (es : List (D × V)) : Jf ob id kd k v KO (some (.map es)) = (Qe kd k es ∧ v.sto = true ∧ KO .undef (setO ob id (.map (Xqe k v es)))) := by simp only [Jf]
@[simp] theorem lkpV_fs (z : D) (v : V) : Xyc z false (some v) = v := by simp only [Xyc]
@[simp] theorem lkpV_fn (z : D) : Xyc z false none = .d z := by simp only [Xyc]
@[simp] theorem findE_nil (k : D) : Xbn k [] = none := by simp only [Xbn]
@[simp] theorem findE_cons (k j : D) (v : V) (r : List (D × V)) : Xbn k ((j, v) :: r) = if D.sameKey k j then some v else Xbn k r := by simp only [Xbn]
@[simp] theorem updE_nil (k : D) (x : V) : Xqe k x [] = [(k, x)] := by simp only [Xqe]
@[simp] theorem updE_cons (k j : D) (x v : V) (r : List (D × V)) : Xqe k x ((j, v) :: r) = if D.sameKey k j then (k, x) :: r else (j, v) :: Xqe k x r := by simp only [Xqe]
@[simp] theorem sameKey_str (a b : List UInt8) : D.sameKey (.str a) (.str b) = (a == b) := by simp only [D.sameKey]
@[simp] theorem alike_str (a b : List UInt8) : D.alike (.str a) (.str b) = true := by simp only [D.alike]
@[simp] theorem keysOk_nil (kd k : D) : Qe kd k [] = (D.alike kd k = true) := by simp [Qe]
@[simp] theorem keysOk_cons (kd k j : D) (v : V) (r : List (D × V)) : Qe kd k ((j, v) :: r) = (D.alike k j = true ∧ Qe kd k r) := by
 simp only [Qe, List.mem_cons, forall_eq_or_imp, eq_iff_iff]
 exact ⟨fun ⟨a, b, c⟩ => ⟨b, a, c⟩, fun ⟨a, b, c⟩ => ⟨b, a, c⟩⟩
@[simp] theorem cval_eqD (ty : KT) (e : Bool) (x y : A) : C.val sl ob (.eqD ty e x y) = X6p e (x.ev sl) (y.ev sl) := by simp only [C.val]
@[simp] theorem eqDV_d (e : Bool) (x y : D) : X6p e (.d x) (.d y) = .d (.bool (D.eqb x y == e)) := by simp only [X6p]
def X98 (ty : KT) : V → V → Prop
 | .d x, .d y => ty.fits x = true ∧ ty.fits y = true
 | _, _ => False
@[simp] theorem eqDS_d (ty : KT) (x y : D) : X98 ty (.d x) (.d y) = (ty.fits x = true ∧ ty.fits y = true) := by simp only [X98]
@[simp] theorem cok_eqD (ty : KT) (e : Bool) (x y : A) : C.ok sl ob (.eqD ty e x y) = X98 ty (x.ev sl) (y.ev sl) := by
 simp only [C.ok, C.wp, C.val]
 generalize x.ev sl = a; generalize y.ev sl = b
 cases a <;> cases b <;> simp [Ya8, X98, X6p]
end
attribute [simp] D.eqb D.eqbs KT.fits KT.fitss KT.fitsA
@[congr] theorem owp_congr {P : Prg} {K : Xc → Objs → Prop} {Pn : V → Xc → Objs → Prop} {t : Ot} {sl : Xc} {ob : Objs} : owp P K Pn t sl ob = owp P K Pn t sl ob := rfl
@[congr] theorem itK_congr {P : Prg} {K : Xc → Objs → Prop} {Pn : V → Xc → Objs → Prop} {t : It} {sl : Xc} {ob : Objs} : itK P K Pn t sl ob = itK P K Pn t sl ob := rfl
@[congr] theorem slgK_congr {ob : Objs} {n z : Nat} {K : V → Objs → Prop} {u u' : V} (h0 : u = u') : X1d ob n z K u = X1d ob n z K u' := by rw [h0]
@[congr] theorem slgKv_congr {n z : Nat} {K : D → Prop} {u u' : Option V} (h0 : u = u') : Xot n z K u = Xot n z K u' := by rw [h0]
@[congr] theorem lkpK_congr {ob : Objs} {kd z : D} {ok : Bool} {K : V → Prop} {u u' v v' : V} (h0 : u = u') (h1 : v = v') : Xwr ob kd z ok K u v = Xwr ob kd z ok K u' v' := by rw [h0, h1]
@[congr] theorem lkpKo_congr {kd z k : D} {ok : Bool} {K : V → Prop} {o o' : Option Ob} (h0 : o = o') : Xer kd z ok k K o = Xer kd z ok k K o' := by rw [h0]
@[congr] theorem msetK_congr {ob : Objs} {kd : D} {x x' : V} {K : V → Objs → Prop} {u u' v v' : V} (h : x = x') (h0 : u = u') (h1 : v = v') : Xcw ob kd x K u v = Xcw ob kd x' K u' v' := by rw [h, h0, h1]
@[congr] theorem msetKo_congr {ob : Objs} {id : Nat} {kd k : D} {x : V} {K : V → Objs → Prop} {o o' : Option Ob} (h0 : o = o') : Jf ob id kd k x K o = Jf ob id kd k x K o' := by rw [h0]
structure Pin {α : Type} (a : α) : Type where
 mk ::
section
variable {P : Prg} {T : Tab} {sl : Xc} {ob : Objs} {KO PO : V → Objs → Prop}
end
end Go.Ab
/- Abz -/
namespace Go.Ab
open Go
def Yi9 : Nat → Nat → List Nat
  | 0, _ => []
  | f + 1, n => match n with
    | 0 => []
    | m + 1 => ((m + 1) % 64) :: Yi9 f ((m + 1) / 64)
abbrev Zr (α : Type) := Option (α × List Nat)
def Ygo : Nat → Nat → Nat → List Nat → Zr Nat
  | 0, a, _, s => some (a, s)
  | n + 1, a, p, d :: s => Ygo n (a + d * p) (p * 64) s
  | _ + 1, _, _, [] => none
def rN : List Nat → Zr Nat
  | [] => none
  | d :: s => match d.ble 55 with
    | true => some (d, s)
    | false => match d.ble 59 with
      | true => Ygo 1 ((d - 56) * 64 + 56) 1 s
      | false => Ygo ([2, 4, 6, 12].getD (d - 60) 0) 0 1 s
def rZ (s : List Nat) : Zr Int := (rN s).bind fun (n, s) => some (match n % 2 with | 0 => Int.ofNat (n / 2) | _ => Int.negSucc (n / 2), s)
def rB (s : List Nat) : Zr Bool := (rN s).bind fun (n, s) => some (n.beq 1, s)
def rIK (s : List Nat) : Zr IntKind := (rN s).bind fun (n, s) => some (([.i8, .i16, .i32, .i64, .u8, .u16, .u32, .u64] : List IntKind).getD n .i64, s)
def rBO (s : List Nat) : Zr BinOp := (rN s).bind fun (n, s) => some (([.add, .sub, .mul, .quo, .rem, .and, .or, .xor, .andNot, .shl, .shr, .eql, .neq, .lss, .leq, .gtr, .geq] : List BinOp).getD n .add, s)
def rL' {α : Type} (p : List Nat → Zr α) : Nat → List Nat → Zr (List α)
  | 0, s => some ([], s)
  | n + 1, s => (p s).bind fun (x, s) => (rL' p n s).bind fun (l, s) => some (x :: l, s)
def rL {α : Type} (p : List Nat → Zr α) (s : List Nat) : Zr (List α) := (rN s).bind fun (n, s) => rL' p n s
def rO {α : Type} (p : List Nat → Zr α) (s : List Nat) : Zr (Option α) := (rN s).bind fun (n, s) => match n with | 0 => some (none, s) | _ => (p s).bind fun (x, s) => some (some x, s)
def rP {α β : Type} (p : List Nat → Zr α) (q : List Nat → Zr β) (s : List Nat) : Zr (α × β) := (p s).bind fun (x, s) => (q s).bind fun (y, s) => some ((x, y), s)
def rb : List Nat → Zr UInt8
  | [] => none
  | d :: s => match d.ble 47 with
    | true => some (UInt8.ofNat (d + 96), s)
    | false => match s with
      | [] => none
      | e :: s => some (UInt8.ofNat ((d - 48) * 64 + e), s)
def rY : List Nat → Zr (List UInt8) := rL rb
mutual
def rD : Nat → List Nat → Zr D
  | 0, _ => none
  | f + 1, s => (rN s).bind fun (n, s) => match n with
    | 0 => (rIK s).bind fun (a, s) => (rZ s).bind fun (b, s) => some (.int a b, s)
    | 1 => (rB s).bind fun (a, s) => some (.bool a, s)
    | 2 => (rY s).bind fun (a, s) => some (.str a, s)
    | 3 => some (.nils, s)
    | 4 => (rN s).bind fun (a, s) => (rLD f s).bind fun (b, s) => some (.list a b, s)
    | 5 => (rLD f s).bind fun (a, s) => some (.agg a, s)
    | 6 => some (.nili, s)
    | 7 => some (.nilp, s)
    | 8 => some (.nilf, s)
    | 9 => some (.nilm, s)
    | 10 => (rD f s).bind fun (a, s) => some (.ref a, s)
    | 11 => (rN s).bind fun (a, s) => (rD f s).bind fun (b, s) => some (.iface a b, s)
    | 12 => (rN s).bind fun (a, s) => (rLD f s).bind fun (b, s) => (rLD f s).bind fun (c, s) => some (.fn a b c, s)
    | _ => none
def rLD : Nat → List Nat → Zr (List D)
  | 0, _ => none
  | f + 1, s => (rN s).bind fun (m, s) => match m with | 0 => (rN s).bind fun (n, s) => rMD f n s | _ => (rN s).bind fun (n, s) => (rD f s).bind fun (x, s) => some (List.replicate n x, s)
def rMD : Nat → Nat → List Nat → Zr (List D)
  | 0, _, _ => none
  | _ + 1, 0, s => some ([], s)
  | f + 1, n + 1, s => (rD f s).bind fun (x, s) => (rMD f n s).bind fun (l, s) => some (x :: l, s)
end
mutual
def rK : Nat → List Nat → Zr KT
  | 0, _ => none
  | f + 1, s => (rN s).bind fun (n, s) => match n with
    | 0 => (rIK s).bind fun (a, s) => some (.int a, s)
    | 1 => some (.bool, s)
    | 2 => some (.str, s)
    | 3 => (rLK f s).bind fun (a, s) => some (.st a, s)
    | 4 => (rN s).bind fun (a, s) => (rK f s).bind fun (b, s) => some (.ar a b, s)
    | _ => none
def rLK : Nat → List Nat → Zr (List KT)
  | 0, _ => none
  | f + 1, s => (rN s).bind fun (n, s) => rMK f n s
def rMK : Nat → Nat → List Nat → Zr (List KT)
  | 0, _, _ => none
  | _ + 1, 0, s => some ([], s)
  | f + 1, n + 1, s => (rK f s).bind fun (x, s) => (rMK f n s).bind fun (l, s) => some (x :: l, s)
end
def rA : List Nat → Zr A
  | [] => none
  | d :: s => match d.ble 43 with
    | true => some (.t d, s)
    | false => match d - 44 with
    | 0 => (rN s).bind fun (a, s) => some (.t a, s)
    | 1 => (rIK s).bind fun (a, s) => (rZ s).bind fun (b, s) => some (.int a b, s)
    | 2 => (rB s).bind fun (a, s) => some (.bool a, s)
    | 3 => (rY s).bind fun (a, s) => some (.str a, s)
    | 4 => some (.nils, s)
    | 5 => some (.nili, s)
    | 6 => some (.nilp, s)
    | 7 => some (.nilf, s)
    | 8 => some (.nilm, s)
    | 9 => (rN s).bind fun (a, s) => some (.nl a, s)
    | 10 => (rN s).bind fun (a, s) => some (.fn a, s)
    | _ => none
def rC (s : List Nat) : Zr C := (rN s).bind fun (n, s) => match n with
    | 12 => (rA s).bind fun (a, s) => some (.neg a, s)
    | 13 => (rB s).bind fun (a, s) => (rA s).bind fun (b, s) => (rA s).bind fun (c, s) => some (.beq a b c, s)
    | 14 => (rB s).bind fun (a, s) => (rA s).bind fun (b, s) => some (.isnil a b, s)
    | 15 => (rB s).bind fun (a, s) => (rA s).bind fun (b, s) => some (.pnil a b, s)
    | 16 => (rB s).bind fun (a, s) => (rA s).bind fun (b, s) => some (.fnil a b, s)
    | 17 => (rB s).bind fun (a, s) => (rA s).bind fun (b, s) => (rA s).bind fun (c, s) => some (.peq a b c, s)
    | 18 => (rA s).bind fun (a, s) => some (.usd a, s)
    | 19 => (rIK s).bind fun (a, s) => (rA s).bind fun (b, s) => some (.cvi a b, s)
    | 20 => (rA s).bind fun (a, s) => some (.cvs a, s)
    | 21 => (rA s).bind fun (a, s) => (rA s).bind fun (b, s) => some (.idx a b, s)
    | 22 => (rN s).bind fun (a, s) => (rN s).bind fun (b, s) => (rA s).bind fun (c, s) => (rA s).bind fun (d, s) => some (.idxP a b c d, s)
    | 23 => (rN s).bind fun (a, s) => (rN s).bind fun (b, s) => (rN s).bind fun (c, s) => (rB s).bind fun (d, s) => (rA s).bind fun (e, s) => some (.fld a b c d e, s)
    | 24 => (rA s).bind fun (a, s) => some (.lenS a, s)
    | 25 => (rN s).bind fun (a, s) => some (.lenA a, s)
    | 26 => (rA s).bind fun (a, s) => (rO (rA) s).bind fun (b, s) => (rO (rA) s).bind fun (c, s) => some (.slcS a b c, s)
    | 27 => (rN s).bind fun (a, s) => (rA s).bind fun (b, s) => (rO (rA) s).bind fun (c, s) => (rO (rA) s).bind fun (d, s) => some (.slcL a b c d, s)
    | 28 => (rN s).bind fun (a, s) => (rL (rA) s).bind fun (b, s) => (rL (rA) s).bind fun (c, s) => some (.mkf a b c, s)
    | 29 => (rN s).bind fun (a, s) => (rD 90 s).bind fun (b, s) => (rA s).bind fun (c, s) => some (.tas a b c, s)
    | 30 => (rK 90 s).bind fun (a, s) => (rB s).bind fun (b, s) => (rA s).bind fun (c, s) => (rA s).bind fun (d, s) => some (.eqD a b c d, s)
    | 31 => (rN s).bind fun (a, s) => (rN s).bind fun (b, s) => (rB s).bind fun (c, s) => (rA s).bind fun (d, s) => (rA s).bind fun (e, s) => some (.aix a b c d e, s)
    | _ => none
def rI (s : List Nat) : Zr I := (rN s).bind fun (n, s) => match n with
    | 10 => (rN s).bind fun (a, s) => (rN s).bind fun (b, s) => (rA s).bind fun (c, s) => (rA s).bind fun (d, s) => some (.appS a b c d, s)
    | 11 => (rA s).bind fun (a, s) => some (.b2s a, s)
    | 12 => (rA s).bind fun (a, s) => some (.s2b a, s)
    | 13 => (rN s).bind fun (a, s) => (rN s).bind fun (b, s) => (rA s).bind fun (c, s) => some (.nilo a b c, s)
    | 14 => (rA s).bind fun (a, s) => some (.mvf a, s)
    | 15 => (rN s).bind fun (a, s) => (rB s).bind fun (b, s) => (rA s).bind fun (c, s) => some (.ldf a b c, s)
    | 16 => (rN s).bind fun (a, s) => (rN s).bind fun (b, s) => (rA s).bind fun (c, s) => (rA s).bind fun (d, s) => (rL (rN) s).bind fun (e, s) => some (.mvg a b c d e, s)
    | 17 => (rA s).bind fun (a, s) => (rA s).bind fun (b, s) => (rL (rP (rN) (rP (rN) (rL (rN)))) s).bind fun (c, s) => some (.mvn a b c, s)
    | 18 => (rA s).bind fun (a, s) => some (.cvb a, s)
    | 19 => (rN s).bind fun (a, s) => (rA s).bind fun (b, s) => (rA s).bind fun (c, s) => some (.ustr a b c, s)
    | 20 => (rO (rA) s).bind fun (a, s) => some (.mkm a, s)
    | 21 => (rD 90 s).bind fun (a, s) => (rD 90 s).bind fun (b, s) => (rB s).bind fun (c, s) => (rA s).bind fun (d, s) => (rA s).bind fun (e, s) => some (.lkp a b c d e, s)
    | 22 => (rD 90 s).bind fun (a, s) => (rA s).bind fun (b, s) => (rA s).bind fun (c, s) => (rA s).bind fun (d, s) => some (.mset a b c d, s)
    | 23 => (rN s).bind fun (a, s) => (rN s).bind fun (b, s) => (rB s).bind fun (c, s) => (rD 90 s).bind fun (d, s) => some (.gld a b c d, s)
    | 24 => (rN s).bind fun (a, s) => (rN s).bind fun (b, s) => (rA s).bind fun (c, s) => some (.slg a b c, s)
    | _ => none
def rIc (c : Nat) (s : List Nat) : Zr I := match c with
    | 0 => (rA s).bind fun (a, s) => some (.c (.mv a), s)
    | 1 => (rN s).bind fun (a, s) => (rB s).bind fun (b, s) => (rA s).bind fun (c, s) => some (.c (.ld a b c), s)
    | 2 => (rN s).bind fun (a, s) => (rN s).bind fun (b, s) => (rA s).bind fun (c, s) => some (.c (.fldA a b c), s)
    | 3 => (rBO s).bind fun (a, s) => (rA s).bind fun (b, s) => (rA s).bind fun (c, s) => some (.c (.bin a b c), s)
    | 4 => (rA s).bind fun (a, s) => some (.c (.lenL a), s)
    | 5 => (rA s).bind fun (a, s) => some (.c (.nilc a), s)
    | 6 => (rN s).bind fun (a, s) => (rA s).bind fun (b, s) => (rA s).bind fun (c, s) => some (.c (.idxA a b c), s)
    | 7 => (rA s).bind fun (a, s) => (rN s).bind fun (b, s) => some (.c (.ext a b), s)
    | 8 => (rA s).bind fun (a, s) => (rA s).bind fun (b, s) => (rA s).bind fun (c, s) => some (.c (.pick a b c), s)
    | 9 => (rA s).bind fun (a, s) => some (.c (.not a), s)
    | 10 => (rLD 90 s).bind fun (a, s) => (rL (rP (rN) (rA)) s).bind fun (b, s) => some (.c (.bld a b), s)
    | 11 => (rN s).bind fun (a, s) => (rA s).bind fun (b, s) => some (.c (.mki a b), s)
    | 12 => (rA s).bind fun (a, s) => (rL (rA) s).bind fun (b, s) => some (.callv a b, s)
    | 13 => (rN s).bind fun (a, s) => (rL (rA) s).bind fun (b, s) => some (.call a b, s)
    | 14 => (rN s).bind fun (a, s) => (rL (rA) s).bind fun (b, s) => some (.pcall a b, s)
    | 15 => (rN s).bind fun (a, s) => (rN s).bind fun (b, s) => (rN s).bind fun (c, s) => (rA s).bind fun (d, s) => (rA s).bind fun (e, s) => some (.app a b c d e, s)
    | 16 => (rN s).bind fun (a, s) => (rD 90 s).bind fun (b, s) => some (.alloc a b, s)
    | 17 => (rN s).bind fun (a, s) => (rA s).bind fun (b, s) => some (.box a b, s)
    | 18 => (rN s).bind fun (a, s) => (rLD 90 s).bind fun (b, s) => (rL (rP (rN) (rA)) s).bind fun (c, s) => some (.bls a b c, s)
    | 19 => (rN s).bind fun (a, s) => (rN s).bind fun (b, s) => (rLD 90 s).bind fun (c, s) => (rL (rP (rN) (rA)) s).bind fun (d, s) => some (.blo a b c d, s)
    | 20 => (rN s).bind fun (a, s) => (rA s).bind fun (b, s) => (rA s).bind fun (c, s) => some (.st a b c, s)
    | 21 => (rA s).bind fun (a, s) => some (.panic a, s)
    | 28 => (rC s).bind fun (c, s) => some (.c c, s)
    | 29 => rI s
    | _ => none
def zop (g : Option (Nat × Bool)) (d : Option Nat) (l : Nat) (c : Nat) (s : List Nat) : Zr (Nat × It) := (rIc c s).bind fun (i, s) => some ((d.getD l, match g with | none => .op d i | some (a, b) => .gop a b d i), s)
def Yjt (g : Option (Nat × Bool)) (l : Nat) : List Nat → Zr (Nat × It)
  | [] => none
  | c :: s => match c.ble 29 with
    | true => zop g (match c with | 20 => none | 21 => none | _ => some (l + 1)) l c s
    | false => (rN s).bind fun (n, s) => zop g (match n with | 0 => none | n + 1 => some n) l (c - 30) s
def rIt (l : Nat) : List Nat → Zr (Nat × It)
  | [] => none
  | c :: s => match c with
    | 61 => (rN s).bind fun (a, s) => (rB s).bind fun (b, s) => Yjt (some (a, b)) l s
    | _ => Yjt none l (c :: s)
def Ylk : Nat → Nat → List Nat → Zr (Nat × List It)
  | 0, l, s => some ((l, []), s)
  | n + 1, l, s => (rIt l s).bind fun ((l, x), s) => (Ylk n l s).bind fun ((l, r), s) => some ((l, x :: r), s)
mutual
def rOt : Nat → Nat → List Nat → Zr (Nat × Ot)
  | 0, _, _ => none
  | f + 1, l, s => (rN s).bind fun (n, s) => match n with
    | 0 => some ((l, .done), s)
    | 1 => (rN s).bind fun (i, s) => (rIt l s).bind fun ((l, x), s) => (rOt f l s).bind fun ((l, r), s) => some ((l, .one i x r), s)
    | 2 => (rN s).bind fun (n, s) => (Ymp f n l s).bind fun (t, s) => some ((l, .br t), s)
    | _ => none
def Ymp : Nat → Nat → Nat → List Nat → Zr Ots
  | 0, _, _, _ => none
  | _ + 1, 0, _, s => some (.nil, s)
  | f + 1, n + 1, l, s => (rN s).bind fun (i, s) => (rIt l s).bind fun ((l', x), s) => (rOt f l' s).bind fun ((_, r), s) => (Ymp f n l s).bind fun (t, s) => some (.cons i x r t, s)
end
structure Alg (τ : Type) where
  rg : List Nat → List It → List Nat → List Nat → τ
  rgT : Nat → Ot → List Nat → List Nat → τ
  seq : τ → τ → τ
  skip : τ
  cond : A → τ → τ → τ
  block : Nat → τ → τ
  loop : List Nat → τ → τ
  exit : Nat → τ
  ret : τ
def Yrq : Alg S := ⟨.rg, .rgT, .seq, .skip, .cond, .block, .loop, .exit, .ret⟩
def Yrf (fs : List Nat) : Alg S2 := ⟨fun _ l keep pk => match Jy fs keep pk l [] [] [] with
    | some (l, kp) => .rg l kp pk
    | none => .skip, fun _ t keep pk => .rgT t keep pk, .seq, .skip, .cond, .block, .loop, .exit, .ret⟩
def rS {τ : Type} (a : Alg τ) (ns : List τ) : Nat → Nat → List Nat → Zr (Nat × τ)
  | 0, _, _ => none
  | f + 1, l, s => (rN s).bind fun (n, s) => match n with
    | 0 => (rL rN s).bind fun (o, s) => (rN s).bind fun (n, s) => (Ylk n l s).bind fun ((l, i), s) => (rL rN s).bind fun (c, s) => (rL rN s).bind fun (b, s) => some ((l, a.rg o i c b), s)
    | 1 => (rN s).bind fun (n, s) => (rOt 1000 l s).bind fun ((l, t), s) => (rL rN s).bind fun (c, s) => (rL rN s).bind fun (b, s) => some ((l, a.rgT n t c b), s)
    | 2 => (rS a ns f l s).bind fun ((l, x), s) => (rS a ns f l s).bind fun ((l, y), s) => some ((l, a.seq x y), s)
    | 3 => some ((l, a.skip), s)
    | 4 => (rA s).bind fun (c, s) => (rS a ns f l s).bind fun ((l, x), s) => (rS a ns f l s).bind fun ((l, y), s) => some ((l, a.cond c x y), s)
    | 5 => (rN s).bind fun (n, s) => (rS a ns f l s).bind fun ((l, x), s) => some ((l, a.block n x), s)
    | 6 => (rL rN s).bind fun (n, s) => (rS a ns f l s).bind fun ((l, x), s) => some ((l, a.loop n x), s)
    | 7 => (rN s).bind fun (n, s) => some ((l, a.exit n), s)
    | 8 => some ((l, a.ret), s)
    | 10 => (rN s).bind fun (n, s) => some ((l, ns.getD n a.skip), s)
    | _ => none
def zA {τ : Type} (a : Alg τ) (ns : List τ) (n : Nat) : τ := match rS a ns 1000 0 (Yi9 20000 n) with
  | some ((_, x), _) => x
  | none => a.skip
def zS : List S → Nat → S := zA Yrq
def zL (fs : List Nat) : List S2 → Nat → S2 := zA (Yrf fs)
end Go.Ab
/- The abstract statements that stand for the code of these functions, written by a program from the translation; that they do is checked by the kernel. No condition. -/
namespace Go.Proofs.YtanpgmgkmfckaaaGreatDoor
open Go Go.Ab
set_option maxRecDepth 100000
def X1c : Nat := 0x400005420541c14c10541814800547c20425000411005420541c15000567c40424c10541805420541c14c10541815000567c40824800547c20824401941405420541c14c10541814800547c20424401941405420541c14c10541814401941414800547c20825000411005420541c15000567c40424c10541805420541c14c10541815000567c40824401941405420541c14c10541814401941415000567c40824800547c20c21010558030440000810400c30c30c31804a8001201
def Xzm : List It := [.op (some 3) (.c (.mv (.t 6)))]
def X66 : List Nat := [0, 1, 2, 3]
def n18 : Nat := 0x4300a0c01020401105430020003c400f10308100638914f7820000820051030810063403040940030000c0080144e05b812470093652ca78a0030000c0080144e1d7032de2000022040080c204014700e70321e080002
def Ykd : S := zS [(zS [] X1c)] n18
theorem Yiq : Xp6 Tryz.prog 18 3 6 Xzm Ykd = true := by kernel_rfl
def n19 : Nat := 0x1000ef006f64217834069e08000000101560150d05700008c05608208b04c14a0544500495ad2414000527c50424c004008100148801560150d05700008c05608208b04c14a0544500493c9053001002040055c0805000149f142092044e0d1c05580543415c00023015820822c130528151140124f2414c0040081001488052044e14ac705000149f1420804de1813c00021013820820c13450810000410000013810800014855534c91af2820f8340002000080001403b480830b83471060010450000840820831400000de200002
def Yh9 : S := zS [] n19
theorem Yss : X1 Tryz.prog 19 1 Yh9 [] = true := by kernel_rfl
def X0y : Nat := 0x400239815250410a408209b162800e054b83e10010030000c00030000800850050401520811417c004178104274208270500000034c2ca2481c61440c2040340002002ef006f64217834069e080002
def n20 : Nat := 0x402830020025d80540810425811383400040000020025150540820824d2087e0d7d0f030040c00801410805dd0001400024440110800fdc01bc60ed4031b834045e08000208008008f0855000c00030000c0002002140152e03b8e0010030000c000300008008500a34113834000500008000150939512f2c20f8340002000080001803b490c30b834810700104604108508208414000011e200002
def Yma : S := zS [(zS [] X0y)] n20
theorem Yos : X1 Tryz.prog 20 1 Yma [] = true := by kernel_rfl
def Xzx : Nat := 0x1000655604e0b5c15800800c000300200a0405400415030c2003b5310648004144000240501178b000
def n25 : Nat := 0x100a0c004008f54e1382d0e83b413400800c000300200a3000412c10422850001c0009100241003003b482c31c4180041140002105005786000082
def Yi4 : S := zS [(zS [] Xzx)] n25
theorem Ysb : X1 Tryz.prog 25 2 Yi4 [] = true := by kernel_rfl
def n58 : Nat := 0x10c00040ed24264d00008000810020008718b0c20011de0c0002
def Ylr : S := zS [] n58
theorem Ypp : X1 Tryz.prog 58 3 Ylr [] = true := by kernel_rfl
def n59 : Nat := 0x40005083b440cde4d040005783000
def Yg5 : S := zS [] n59
theorem Yqx : X1 Tryz.prog 59 2 Yg5 [] = true := by kernel_rfl
def n60 : Nat := 0x480020450de100041057700bc20ed0c337934000400008000102f0de040002
def Ymi : S := zS [] n60
theorem Yqj : X1 Tryz.prog 60 1 Ymi [.t 2] = true := by kernel_rfl
def n61 : Nat := 0x40005183b440cde4d040005783000
def Ykl : S := zS [] n61
theorem Yrd : X1 Tryz.prog 61 2 Ykl [] = true := by kernel_rfl
def n62 : Nat := 0x120018106e1de0400020004530544800023050020ed05011b70f00104e00008d14000035e2400020c8006040b8778100008b1002c008a2492070c9e0d08004000014000208008100302e1de040002
def Yj7 : S := zS [] n62
theorem Yo9 : X1 Tryz.prog 62 3 Yj7 [.t 6] = true := by kernel_rfl
def X1v : Nat := 0x4800405815e5c0042097700bc40ed5833793405de100002
def n63 : Nat := 0x40283000050e83b5409934055e0800131004c0080481b8820e05124023d34140908ee52b0023d3010c108a7c023d10108f00104023d2c0481b8820e05124023d34140908ee4e008f4c04f00145f008f4b0420c108a7c023d10208e08208023d281003b4d106008f4904c00104023d200481b8820e05124023d34140908ee4e008f4c04f00104023d2c108e08208023d281003b4d106008f4904c00139f008f480420c108a7c023d10208b00008023d1c1285008f460402de008f45047003046242040bc40ed14327834104000004f0420800c00800ed00133912f080002
def Yk8 : S := zS [(zS [] X1v)] n63
theorem Yor : X1 Tryz.prog 63 2 Yk8 [.t 4] = true := by kernel_rfl
def X0q : Nat := 0x401020033057820ed1000c20000040800ca2c15070811167092021f83520c00030020050420d774000321e18000010308010611e1000800020450801c31440801440801080ed10d1a1040002
def n64 : Nat := 0x4800204d08450204439f08000200a102003180140102003003b457810000820020020030040458f80ee040002
def Yjn : S := zS [(zS [] X0q)] n64
theorem Yrh : X1 Tryz.prog 64 1 Yjn [.c 2 4 true] = true := by kernel_rfl
def n65 : Nat := 0x1200181987780ba5608901b9b20163d8e22c301bf420006fd84004101bf600410806fd003b5f10601bf5e0010406fd74000201bf5c1406fd00001bf5a00163d02f64b0c163d080058f57000b963485542c304df4100137d4c004104df5200008137d003b5110604df5000104137d3c000204df4e14137d00004df4c0000ed2cf0ca10900104800008714002100008008100302e1de040002
def Yh7 : S := zS [] n65
theorem Yn3 : X1 Tryz.prog 65 3 Yh7 [.t 6] = true := by kernel_rfl
def n66 : Nat := 0x4800205208b50204b042000080081ef006f40217834000200008008008e3c45021c208d048e0d0001000020020022cc1940810422813f93400040000800800bac01bc8085e0d00008000200200218705408000214113834000400008008008430524616f0c20f83400020000800800800c01011430030000800c00030000c01801400830059780ee040002
def Yhp : S := zS [] n66
theorem Yr8 : X1 Tryz.prog 66 1 Yhp [.c 2 11 true] = true := by kernel_rfl
def n67 : Nat := 0x4800204f084502044042000080081ef006f34217834000200008008008b30150204108a044e0d00010000200200215624712f2020f83400020000800800861c15020000960ed142439340004000080080084385405106bc3083e0d0000800020020020030030020c4005a380ee040002
def Yjb : S := zS [] n67
theorem Ym8 : X1 Tryz.prog 67 1 Yjb [.c 2 4 true] = true := by kernel_rfl
def X0u : Nat := 0x40203081005549794468e08d8f4c00400c00030000c00020021401400c000200210014100848048c0c0212786000
def Xsf : Nat := 0x402830080c20401440ed3c264d00008000e1003880c204018d30b0c100b1080040000820450070ca1002880c204018024c08a782000082
def n68 : Nat := 0x1200201589788397ec20000802880c2040146005080203081005c08d8d27b040002
def Yhb : S := zS [(zS [(zS [] X0u)] Xsf)] n68
theorem Ypw : X1 Tryz.prog 68 4 Yhb [.t 8] = true := by kernel_rfl
def n69 : Nat := 0x4800404515e0c208047971c080002003082cc00494401f80ef0c0002
def Yiu : S := zS [] n69
theorem Yry : X1 Tryz.prog 69 2 Yiu [.t 4] = true := by kernel_rfl
def X1b : Nat := 0x48002058088502048042000080081ef006f5821783405de080002
def n70 : Nat := 0x100a0c00800915415140410820c30904c15120000820c308134700d4653ce78e052e4d00f78b00030400c0800c63c2bc20ed2c31b834000200008200200224a0540810422011383400040000800800861c1502000085044e0d00010000200200234f48612f0c20f83400020000800800800c00030000c00020021401400c00020021001760ee040002
def Yjx : S := zS [(zS [] X1b)] n70
theorem Yrr : X1 Tryz.prog 70 1 Yjx [.c 2 8 true] = true := by kernel_rfl
def X16 : Nat := 0x10080c204015525e5110392c0e0f4c00400c00030000c00020021401400c00030000c00020021401400c00c014100b48048c0c0212786000
def Xve : Nat := 0x402830080c20401440ed3c264d00008000e1003880c204018d30b0c100b1080040000820450070ca1002880c204018024c08a782000082
def n71 : Nat := 0x4800805625e20e5fb08000200a2030810051801420080c20401702c0e0d27b040002
def Yld : S := zS [(zS [(zS [] X16)] Xve)] n71
theorem Yq3 : X1 Tryz.prog 71 4 Yld [.t 8] = true := by kernel_rfl
def X0t : Nat := 0x12000817422d40812c108000200207bc01bdb085e0d00008000200200265a1540860826014f934065e100002
def n72 : Nat := 0x100a002002203b4c0540800020800000800bdc01bca085e0d00008000200200287006f20217834025e0800020c00800860ed5c15020000820005840160800fdc01bc60ed5431b83400020000800800840ed5015020005600800024440110800d349ef3006f183b520c6e0d0137830000800800820ed40150200046008000d1003420033ce7bdc01bc60ed3831b83403de0c00020050800800861c5502041085053e4d0001000020020021521485c5bc3083e0d0000800020020020030000c00030000800850050030000c00030000800850050030030050380ee040002
def Ykw : S := zS [(zS [] X0t)] n72
theorem Ypr : X1 Tryz.prog 72 1 Ykw [.c 2 11 true] = true := by kernel_rfl
def Xz0 : Nat := 0x10080c204015525e5116381c2e0f4c00400c00030000c00020021401400c00020c014100748048c0c0212786000
def Xwq : Nat := 0x402830080c20401440ed3c264d00008000e1003880c204018d30b0c100b1080040000820450070ca1002880c204018024c08a782000082
def n73 : Nat := 0x4800805625e20e5fb08000200a2030810051801420080c20401701c2e0d27b040002
def Yki : S := zS [(zS [(zS [] Xz0)] Xwq)] n73
theorem Yoc : X1 Tryz.prog 73 4 Yki [.t 8] = true := by kernel_rfl
def n74 : Nat := 0x4800204f087502047042000080081ef006f34217834000200008008008b30550208208a053e4d000100002002002f7006f2021783400020000800800861c1502000085044e0d0001000020020025054c3bc3083e0d0000800020020020030000c00030000800850050030000830050b80ee040002
def Yjw : S := zS [] n74
theorem Ym6 : X1 Tryz.prog 74 1 Yjw [.c 2 7 true] = true := by kernel_rfl
def X07 : Nat := 0x10080c204015525e511038178e0f4c00400c00030000c000200214014100548048c0c0212786000
def Xv4 : Nat := 0x402830080c20401440ed3c264d00008000e1003880c204018d30b0c100b1080040000820450070ca1002880c204018024c08a782000082
def n75 : Nat := 0x4800805625e20e5fb08000200a2030810051801420080c2040170178e0d27b040002
def Yls : S := zS [(zS [(zS [] X07)] Xv4)] n75
theorem Yqa : X1 Tryz.prog 75 4 Yls [.t 8] = true := by kernel_rfl
def Xzp : Nat := 0x4800205a085502045042000080081ef006f60217834065e080002
def n76 : Nat := 0x100a0c00800965c150210409531c513087e0d200000f430000c00801410845dd000180012100482003b7006f183b510c6e0d0000800020020023d005408410238d087e0d200000f430000c00801410845dd00014000c100302003af006f183b4b0c6e0d000080002080080089281502041088044e0d000100002002002f7006f182178340002000080080084141502000083044e0d0001000020020020030000c0003000080085005e380ee040002
def Ykv : S := zS [(zS [] Xzp)] n76
theorem Ysd : X1 Tryz.prog 76 1 Ykv [.c 2 5 true] = true := by kernel_rfl
def X1u : Nat := 0x10080c204015525e511c04cf83d30010030000c000200210014100448048c0c0212786000
def Xs6 : Nat := 0x402830080c20401440ed3c264d00008000e1003880c204018d30b0c100b1080040000820450070ca1002880c204018024c08a782000082
def n77 : Nat := 0x4800805625e20e5fb08000200a2030810051801420080c2040170133e0d27b040002
def Ykf : S := zS [(zS [(zS [] X1u)] Xs6)] n77
theorem Yo2 : X1 Tryz.prog 77 4 Ykf [.t 8] = true := by kernel_rfl
def n78 : Nat := 0x4800204e084502044042000080081ef006f3021783400020000800800892c15020410882815020000811470052651c6786052e4d00778900008008009904d0ef0c20f83400020000800800800c0003000080084005cf80ee040002
def Yme : S := zS [] n78
theorem Ym3 : X1 Tryz.prog 78 1 Yme [.c 2 4 true] = true := by kernel_rfl
def Xts : Nat := 0x4800605d1845070440420000801c609a70151b000095140083b416446dc6000415c00025850000167890000801c60035071140030000c0002003004005b08b930440400ed48419100105000008f14041e200002
def Ye9 : Nat := 0x4028300600243a0ed34264d00008000c1003060032c928920327834200100025e1400020801820401000c00030000800c010016c1ee040002
def X8a : S := zS [(zS [] Xts)] Ye9
theorem Yfq : X1 Tryz.prog 133 3 X8a [.c 6 4 true] = true := by kernel_rfl
def Yil : Nat := 0x4800404e15e02e34920c28e0c127d2c0041049f4204108127d040049f4800718e0c100500104200008b000080081080b857803390ef080002
def X7g : S := zS [] Yil
theorem Ygs : X1 Tryz.prog 134 2 X7g [.t 4] = true := by kernel_rfl
def Xwi : Nat := 0x1200081bac086502046bdf080002
def Ye0 : Nat := 0x4028008143a0ed0c264d00478200000206cb2db015020820820edac10ea129001042145086000002067a015021450a00ed9824393400040000800800880ed9415020009a00800028840220800e48de14324f2031af083b630c6e0d024783000080081001ffef43b61054082082183b6005408002180400074401d0800df79e38f4d21501af083b5e0c6e0d01f7830000800817fef03b5c054082082103b5b05408001c8040006040180800da65e15404412f083b590c6e0d01a7830000830020565c15020c3095044e0d0001000141005020033890af083b530c6e0d00008000200200245205408208240f087e0d200000f430000c00801410845dd0001400020020023d40af3420f834000200008008008b30150204108a2421f834800003d0c00030020050421177400050000800800820ed2015020002600800021440050800c719e48508d54e1af083b460c6e0d0077830000801420020020c00c00020030000c00030060058b80ee040002
def X94 : S := zS [(zS [] Xwi)] Ye0
theorem Ygd : X1 Tryz.prog 135 1 X94 [.c 2 6 true] = true := by kernel_rfl
def Ym0 : Nat := 0x120010148e17b44b40124f40f38c138e4d081039e5c7060020ed3410c100200104a0010020400494c52de280002006142044247782040df970ae82000080142043206787044e0d0800487c30000800810b0385ec01f80ef080002
def X8z : S := zS [] Ym0
theorem Yen : X1 Tryz.prog 136 2 X8z [.t 4] = true := by kernel_rfl
def Yll : Nat := 0x1200081143784083b430c9e0d04004100004110000200100202e0de040002
def X9x : S := zS [] Yll
theorem Ydm : X1 Tryz.prog 137 2 X9x [.t 2] = true := by kernel_rfl
def Yl5 : Nat := 0x48003082280203789044e0d000080140002002002bb006f1821783401de080002002002143784044e0d0000c0002000040bc002f0de080002
def X7n : S := zS [] Yl5
theorem Yd0 : X1 Tryz.prog 138 1 X7n [.t 2, .t 3] = true := by kernel_rfl
def Ymj : Nat := 0x120008140215408114108000200204d3c150204108c3815020000812470093652ca78a052e4d00b789000083200081202154043b421c40800c00030000c00020021402861421f834800003d0c000300200504211774000500008410010200302f103b430c9e0d0000800020800800800c00030000c00020021401740ee040002
def Ybp : S := zS [] Ymj
theorem Yfg : X1 Tryz.prog 139 1 Ybp [.c 2 5 true] = true := by kernel_rfl
def Yij : Nat := 0x4800104309eb3006f183b420c9e0d0000410c0002000040b80040002
def Yay : S := zS [] Yij
theorem Yei : X1 Tryz.prog 175 1 Yay [.t 1] = true := by kernel_rfl
def Xsx : Nat := 0x10080c204015525e51140124f4c004008100148048c0c0212786000
def Xkn : Nat := 0x402830080c20401440ed3c264d00008000e1003880c204018d30b0c100b1080040000820450070ca1002880c204018024c08a782000082
def Yc3 : Nat := 0x1200201589788397ec20000802880c2040146005080203081005c0124d27b040002
def X7d : S := zS [(zS [(zS [] Xsx)] Xkn)] Yc3
theorem Ygg : X1 Tryz.prog 176 4 X7d [.t 8] = true := by kernel_rfl
def Yk6 : Nat := 0x1200041142784044e0d0000410c000200006cc01bc2085e0d000041080002000040bc0040002
def X7s : S := zS [] Yk6
theorem Ygx : X1 Tryz.prog 177 1 X7s [.t 1] = true := by kernel_rfl
end Go.Proofs.YtanpgmgkmfckaaaGreatDoor
/- The same statements with their regions folded into expressions, printed by the fold itself; that they are that is checked by the kernel. No condition. -/
namespace Go.Proofs.YtanpgmgkmfckaaaGreatDoor
open Go Go.Ab
set_option maxRecDepth 100000
def Xjn : S2 := zL [] [] X1c
def X5x := by
 have h := Eq.refl Xjn
 conv at h => rhs; cbv
 exact h
def Xwe : List It2 := []
def Xu9 : List (Nat × E) := [(0, (.a (.t 0))), (1, (.a (.t 1))), (2, (.a (.t 2))), (3, (.a (.t 6)))]
theorem Ymm : Jy [] X66 [] Xzm [] [] [] = some (Xwe, Xu9) := by kernel_rfl
def Ymo : S2 := zL [] [Xjn] n18
def Yik := by
 have h := fun (a : S2) => Eq.refl (zL [] [a] n18)
 conv at h => intro a; rhs; cbv
 have e : Ymo = _ := h Xjn
 exact e
theorem Yi3 : Ykd.lift [] = some Ymo := by kernel_rfl
def Yhi : S2 := zL [] [] n19
def Yrv := by
 have h := Eq.refl Yhi
 conv at h => rhs; cbv
 exact h
theorem Ysm : Yh9.lift [] = some Yhi := by kernel_rfl
def Xmp : S2 := zL [] [] X0y
def Xwa := by
 have h := Eq.refl Xmp
 conv at h => rhs; cbv
 exact h
def Yjh : S2 := zL [] [Xmp] n20
def Ysu := by
 have h := fun (a : S2) => Eq.refl (zL [] [a] n20)
 conv at h => intro a; rhs; cbv
 have e : Yjh = _ := h Xmp
 exact e
theorem Ysw : Yma.lift [] = some Yjh := by kernel_rfl
def Xii : S2 := zL [] [] Xzx
def X2q := by
 have h := Eq.refl Xii
 conv at h => rhs; cbv
 exact h
def Yjz : S2 := zL [] [Xii] n25
def Yhk := by
 have h := fun (a : S2) => Eq.refl (zL [] [a] n25)
 conv at h => intro a; rhs; cbv
 have e : Yjz = _ := h Xii
 exact e
theorem Yrg : Yi4.lift [] = some Yjz := by kernel_rfl
def Yin : S2 := zL [] [] n58
def Ym7 := by
 have h := Eq.refl Yin
 conv at h => rhs; cbv
 exact h
theorem Yru : Ylr.lift [] = some Yin := by kernel_rfl
def Yj1 : S2 := zL [] [] n59
def Yr7 := by
 have h := Eq.refl Yj1
 conv at h => rhs; cbv
 exact h
theorem Yop : Yg5.lift [] = some Yj1 := by kernel_rfl
def Yih : S2 := zL [] [] n60
def Ynd := by
 have h := Eq.refl Yih
 conv at h => rhs; cbv
 exact h
theorem Ynx : Ymi.lift [] = some Yih := by kernel_rfl
def Yh1 : S2 := zL [] [] n61
def Yp5 := by
 have h := Eq.refl Yh1
 conv at h => rhs; cbv
 exact h
theorem Ynw : Ykl.lift [] = some Yh1 := by kernel_rfl
def Ykr : S2 := zL [] [] n62
def Ynb := by
 have h := Eq.refl Ykr
 conv at h => rhs; cbv
 exact h
theorem Ym5 : Yj7.lift [] = some Ykr := by kernel_rfl
def Xlg : S2 := zL [134] [] X1v
def X2o := by
 have h := Eq.refl Xlg
 conv at h => rhs; cbv
 exact h
def Yjo : S2 := zL [134] [Xlg] n63
def Ysh := by
 have h := fun (a : S2) => Eq.refl (zL [134] [a] n63)
 conv at h => intro a; rhs; cbv
 have e : Yjo = _ := h Xlg
 exact e
theorem Yq8 : Yk8.lift [134] = some Yjo := by kernel_rfl
def Xip : S2 := zL [] [] X0q
def Xc4 := by
 have h := Eq.refl Xip
 conv at h => rhs; cbv
 exact h
def Yhd : S2 := zL [] [Xip] n64
def Ypu := by
 have h := fun (a : S2) => Eq.refl (zL [] [a] n64)
 conv at h => intro a; rhs; cbv
 have e : Yhd = _ := h Xip
 exact e
theorem Yrb : Yjn.lift [] = some Yhd := by kernel_rfl
def Yjm : S2 := zL [] [] n65
def Yln := by
 have h := Eq.refl Yjm
 conv at h => rhs; cbv
 exact h
theorem Ynp : Yh7.lift [] = some Yjm := by kernel_rfl
def Yh8 : S2 := zL [] [] n66
def Yn6 := by
 have h := Eq.refl Yh8
 conv at h => rhs; cbv
 exact h
theorem Ypd : Yhp.lift [] = some Yh8 := by kernel_rfl
def Ymk : S2 := zL [] [] n67
def Yob := by
 have h := Eq.refl Ymk
 conv at h => rhs; cbv
 exact h
theorem Yr0 : Yjb.lift [] = some Ymk := by kernel_rfl
def Xku : S2 := zL [] [] X0u
def X2z := by
 have h := Eq.refl Xku
 conv at h => rhs; cbv
 exact h
def Xjy : S2 := zL [] [Xku] Xsf
def X3x := by
 have h := fun (a : S2) => Eq.refl (zL [] [a] Xsf)
 conv at h => intro a; rhs; cbv
 have e : Xjy = _ := h Xku
 exact e
def Yhj : S2 := zL [] [Xjy] n68
def Yqo := by
 have h := fun (a : S2) => Eq.refl (zL [] [a] n68)
 conv at h => intro a; rhs; cbv
 have e : Yhj = _ := h Xjy
 exact e
theorem Yqz : Yhb.lift [] = some Yhj := by kernel_rfl
def Yit : S2 := zL [] [] n69
def Yol := by
 have h := Eq.refl Yit
 conv at h => rhs; cbv
 exact h
theorem Yq7 : Yiu.lift [] = some Yit := by kernel_rfl
def Xmq : S2 := zL [] [] X1b
def Xu1 := by
 have h := Eq.refl Xmq
 conv at h => rhs; cbv
 exact h
def Yl1 : S2 := zL [] [Xmq] n70
def Yoq := by
 have h := fun (a : S2) => Eq.refl (zL [] [a] n70)
 conv at h => intro a; rhs; cbv
 have e : Yl1 = _ := h Xmq
 exact e
theorem Yqt : Yjx.lift [] = some Yl1 := by kernel_rfl
def Xjx : S2 := zL [] [] X16
def X3g := by
 have h := Eq.refl Xjx
 conv at h => rhs; cbv
 exact h
def Xi7 : S2 := zL [] [Xjx] Xve
def X42 := by
 have h := fun (a : S2) => Eq.refl (zL [] [a] Xve)
 conv at h => intro a; rhs; cbv
 have e : Xi7 = _ := h Xjx
 exact e
def Yl6 : S2 := zL [] [Xi7] n71
def Ynq := by
 have h := fun (a : S2) => Eq.refl (zL [] [a] n71)
 conv at h => intro a; rhs; cbv
 have e : Yl6 = _ := h Xi7
 exact e
theorem Yps : Yld.lift [] = some Yl6 := by kernel_rfl
def Xlw : S2 := zL [] [] X0t
def Xf7 := by
 have h := Eq.refl Xlw
 conv at h => rhs; cbv
 exact h
def Yif : S2 := zL [] [Xlw] n72
def Yo5 := by
 have h := fun (a : S2) => Eq.refl (zL [] [a] n72)
 conv at h => intro a; rhs; cbv
 have e : Yif = _ := h Xlw
 exact e
theorem Ysj : Ykw.lift [] = some Yif := by kernel_rfl
def Xjf : S2 := zL [] [] Xz0
def X3e := by
 have h := Eq.refl Xjf
 conv at h => rhs; cbv
 exact h
def Xmj : S2 := zL [] [Xjf] Xwq
def X45 := by
 have h := fun (a : S2) => Eq.refl (zL [] [a] Xwq)
 conv at h => intro a; rhs; cbv
 have e : Xmj = _ := h Xjf
 exact e
def Yk2 : S2 := zL [] [Xmj] n73
def Yqm := by
 have h := fun (a : S2) => Eq.refl (zL [] [a] n73)
 conv at h => intro a; rhs; cbv
 have e : Yk2 = _ := h Xmj
 exact e
theorem Yqg : Yki.lift [] = some Yk2 := by kernel_rfl
def Ylx : S2 := zL [] [] n74
def Yp8 := by
 have h := Eq.refl Ylx
 conv at h => rhs; cbv
 exact h
theorem Ypi : Yjw.lift [] = some Ylx := by kernel_rfl
def Xi5 : S2 := zL [] [] X07
def X5v := by
 have h := Eq.refl Xi5
 conv at h => rhs; cbv
 exact h
def Xlv : S2 := zL [] [Xi5] Xv4
def X3o := by
 have h := fun (a : S2) => Eq.refl (zL [] [a] Xv4)
 conv at h => intro a; rhs; cbv
 have e : Xlv = _ := h Xi5
 exact e
def Yiz : S2 := zL [] [Xlv] n75
def Yn7 := by
 have h := fun (a : S2) => Eq.refl (zL [] [a] n75)
 conv at h => intro a; rhs; cbv
 have e : Yiz = _ := h Xlv
 exact e
theorem Yrn : Yls.lift [] = some Yiz := by kernel_rfl
def Xlm : S2 := zL [] [] Xzp
def Xi6 := by
 have h := Eq.refl Xlm
 conv at h => rhs; cbv
 exact h
def Yk7 : S2 := zL [] [Xlm] n76
def Yoa := by
 have h := fun (a : S2) => Eq.refl (zL [] [a] n76)
 conv at h => intro a; rhs; cbv
 have e : Yk7 = _ := h Xlm
 exact e
theorem Yox : Ykv.lift [] = some Yk7 := by kernel_rfl
def Xjm : S2 := zL [] [] X1u
def X4w := by
 have h := Eq.refl Xjm
 conv at h => rhs; cbv
 exact h
def Xmw : S2 := zL [] [Xjm] Xs6
def X2y := by
 have h := fun (a : S2) => Eq.refl (zL [] [a] Xs6)
 conv at h => intro a; rhs; cbv
 have e : Xmw = _ := h Xjm
 exact e
def Ykj : S2 := zL [] [Xmw] n77
def Yo1 := by
 have h := fun (a : S2) => Eq.refl (zL [] [a] n77)
 conv at h => intro a; rhs; cbv
 have e : Ykj = _ := h Xmw
 exact e
theorem Ypk : Ykf.lift [] = some Ykj := by kernel_rfl
def Ylh : S2 := zL [] [] n78
def Yrt := by
 have h := Eq.refl Ylh
 conv at h => rhs; cbv
 exact h
theorem Yrs : Yme.lift [] = some Ylh := by kernel_rfl
def Xe7 : S2 := zL [] [] Xts
def Xx4 := by
 have h := Eq.refl Xe7
 conv at h => rhs; cbv
 exact h
def Yaq : S2 := zL [] [Xe7] Ye9
def Yfw := by
 have h := fun (a : S2) => Eq.refl (zL [] [a] Ye9)
 conv at h => intro a; rhs; cbv
 have e : Yaq = _ := h Xe7
 exact e
theorem Yem : X8a.lift [] = some Yaq := by kernel_rfl
def Yat : S2 := zL [] [] Yil
def Ydb := by
 have h := Eq.refl Yat
 conv at h => rhs; cbv
 exact h
theorem Ye2 : X7g.lift [] = some Yat := by kernel_rfl
def Xe4 : S2 := zL [] [] Xwi
def Jt := by
 have h := Eq.refl Xe4
 conv at h => rhs; cbv
 exact h
def X7q : S2 := zL [] [Xe4] Ye0
def Yff := by
 have h := fun (a : S2) => Eq.refl (zL [] [a] Ye0)
 conv at h => intro a; rhs; cbv
 have e : X7q = _ := h Xe4
 exact e
theorem Yey : X94.lift [] = some X7q := by kernel_rfl
def Ya4 : S2 := zL [] [] Ym0
def Yc2 := by
 have h := Eq.refl Ya4
 conv at h => rhs; cbv
 exact h
theorem Yeg : X8z.lift [] = some Ya4 := by kernel_rfl
def Yad : S2 := zL [] [] Yll
def Yeh := by
 have h := Eq.refl Yad
 conv at h => rhs; cbv
 exact h
theorem Yfb : X9x.lift [] = some Yad := by kernel_rfl
def X7m : S2 := zL [] [] Yl5
def Ye5 := by
 have h := Eq.refl X7m
 conv at h => rhs; cbv
 exact h
theorem Yc4 : X7n.lift [] = some X7m := by kernel_rfl
def X7f : S2 := zL [] [] Ymj
def Ygy := by
 have h := Eq.refl X7f
 conv at h => rhs; cbv
 exact h
theorem Yd9 : Ybp.lift [] = some X7f := by kernel_rfl
def Yb1 : S2 := zL [] [] Yij
def Yf2 := by
 have h := Eq.refl Yb1
 conv at h => rhs; cbv
 exact h
theorem Yee : Yay.lift [] = some Yb1 := by kernel_rfl
def Xez : S2 := zL [] [] Xsx
def Xzk := by
 have h := Eq.refl Xez
 conv at h => rhs; cbv
 exact h
def Xe2 : S2 := zL [] [Xez] Xkn
def Xxt := by
 have h := fun (a : S2) => Eq.refl (zL [] [a] Xkn)
 conv at h => intro a; rhs; cbv
 have e : Xe2 = _ := h Xez
 exact e
def X69 : S2 := zL [] [Xe2] Yc3
def Yel := by
 have h := fun (a : S2) => Eq.refl (zL [] [a] Yc3)
 conv at h => intro a; rhs; cbv
 have e : X69 = _ := h Xe2
 exact e
theorem Yc7 : X7d.lift [] = some X69 := by kernel_rfl
def Yas : S2 := zL [] [] Yk6
def Yf8 := by
 have h := Eq.refl Yas
 conv at h => rhs; cbv
 exact h
theorem Ydt : X7s.lift [] = some Yas := by kernel_rfl
end Go.Proofs.YtanpgmgkmfckaaaGreatDoor
/- The abstract statements that stand for the code of these functions, written by a program from the translation; that they do is checked by the kernel. No condition. -/
namespace Go.Proofs.YtanpgmgkmfckaaaGreatDoor
open Go Go.Ab
set_option maxRecDepth 100000
def X12 : Nat := 0x440c20c61440c200602db0cb2c00106b18115672a001067a4123b5abea68957250019dfa020828698e40410a314500000500e34c2ca2461481c40c20403800450070e01040c20e01851030801df74d0de61c0007000416c104268515b787000082
def X35 : S := zS [] X12
def Yib : FSt := .pre (.rg [] [.op (some 2) (.alloc 40 (.nils)),
   .op (some 3) (.alloc 3 (.int .i64 0)),
   .op (some 4) (.alloc 31 (.int .i64 0))] [0, 2, 3, 4] [])
 (.pre (.seq (.rg [] [.op (some 7) (.c (.mv (.t 0))),
   .op (some 8) (.c (.lenS (.t 7))),
   .op (some 9) (.c (.bin .gtr (.t 8) (.int .i64 65536)))] [0, 2, 3, 4, 9] [])
 (.cond (.t 9) (.seq (.rg [] [.op none (.st 1 (.t 2) .nils),
   .op none (.st 1 (.t 3) (.int .i64 0)),
   .op none (.st 1 (.t 4) (.int .i64 2))] [2, 3, 4] [])
 (.ret)) (.skip)))
 (.dfr [.op (some 10) (.c (.mkf 41 [] [(.t 2), (.t 3), (.t 4)]))] [0, 2, 3, 4, 10] 10
 (.seq (.rg [] [.op (some 11) (.c (.mv (.t 0))),
   .op (some 12) (.pcall 42 []),
   .op (some 13) (.c (.bld [.str [], .int .i64 0, .agg (List.replicate 256 (.int .i64 0)), .nils] [(0, (.t 11)), (2, (.t 12))])),
   .op (some 14) (.box 119 (.t 13)),
   .op (some 5) (.mvg 44 4 (.t 14) (.t 14) [3])] [0, 2, 3, 4, 5] [2, 3, 4])
 (.seq (.rg [] [.op (some 15) (.c (.mv (.t 5))),
   .op (some 16) (.c (.mkf 43 [(.t 15)] [])),
   .op (some 17) (.c (.mv (.t 5))),
   .op (some 18) (.c (.mkf 44 [(.t 17)] [])),
   .op (some 19) (.c (.mv (.t 5))),
   .op (some 20) (.c (.mkf 45 [(.t 19)] [])),
   .op (some 21) (.c (.mv (.t 5))),
   .op (some 22) (.c (.mkf 46 [(.t 21)] [])),
   .op (some 23) (.c (.mv (.t 5))),
   .op (some 24) (.c (.mkf 47 [(.t 23)] [])),
   .op (some 25) (.c (.bld [.nilf, .nilf, .nilf, .nilf, .nilf] [(0, (.t 16)), (1, (.t 18)), (2, (.t 20)), (3, (.t 22)), (4, (.t 24))])),
   .op (some 6) (.alloc 120 (.agg (List.replicate 5 (.nilf)))),
   .op none (.st 5 (.t 6) (.t 25))] [0, 2, 3, 4, 5, 6] [2, 3, 4])
 (.seq (.block 0 (.loop [0, 2, 3, 4, 5, 6] X35))
 (.seq (.rg [] [.op (some 47) (.c (.mv (.t 5))),
   .op (some 48) (.c (.nilc (.t 47))),
   .op (some 49) (.c (.fldA 3 258 (.t 48))),
   .op (some 50) (.c (.ld 1 false (.t 49))),
   .op none (.st 1 (.t 2) (.t 50)),
   .op none (.st 1 (.t 3) (.int .i64 0)),
   .op none (.st 1 (.t 4) (.int .i64 0))] [2, 3, 4] [2, 3, 4])
 (.ret)))))))
theorem Ypx : Xpu Tryz.prog 15 1 Yib [.c 2 1 false, .c 3 1 false, .c 4 1 false] = true := by kernel_rfl
def Xzq : Nat := 0x402481c411e29e083b4901f842000
def X1s : Nat := 0x10092071047040bae0d6c00411810420c00002481c4119102eb835807be0e5c00411820821000161005892071841840ed54b0d40010460005600c0002
def Xqm : Nat := 0x104a00a0c02481c610523812d102e783410004840122481c6106003b513c31527820000820c8003082f390ed000bc37820000901004092071851073c9381e383860443df0c00020802481c614418d18450b19e0030000c0002003004005b07b8c0440491c41890060000811420070ca10200a2481c414824d2e1040002
def n38 : Nat := 0x48003082003b407c378407ce20ac30000802892071041801402481c41000ed00710021e0c00020801000831c200503a401000080001003b4002f0de080002
def Yhl : S := zS [(zS [(zS [] X1s), (zS [] Xzq)] Xqm)] n38
theorem Yp2 : X1 Tryz.prog 38 1 Yhl [.t 2, .t 3] = true := by kernel_rfl
def Xzz : Nat := 0x4003ce43b42054441054c00054112784000
def Xz9 : List It := [.op (some 3) (.c (.mv (.t 6)))]
def Ya1 : List Nat := [0, 1, 2, 3]
def n41 : Nat := 0x4300a0c01020401105430020003c400f10308100638914f7820000820051030810063403057812470093652ca78a003039e1d7032de1c00022040080c204014700e70321e080002
def Yid : S := zS [(zS [] Xzz)] n41
theorem Yhs : Xp6 Tryz.prog 41 3 6 Xz9 Yid = true := by kernel_rfl
def X0p : Nat := 0x1025923004ae67820ed9400c2000025923004203b6a054a40048ed6706a9e0c00009648c6005a077a70010658c11830000871421870e61020269648c016494d9e1040002
def X0k : Nat := 0x101b69900485c7820ed6c00c200001b699004083b600547c0048ed670481e0c00006da64400578579d00105b6411830000851421070dc10201c6da64015a6cd761040002
def X0v : Nat := 0x4044009749e083b510030800004400860ed58151500123b59c528e03b400c255e1000004420034c37910020000831420870d21020124400d40ed44d4e1040002
def X0h : Nat := 0x401c009021e083b470030800001c00840ed3c150d00123b59c103b4e0542c0048ed670c2ba0ed00304028ae43b400c12de2000001c10032427870020000811420070c81020081c00f40ed1cd261040002
def n42 : Nat := 0x4800006cb0023b500048eed7c20000832a59230041861409648c01000ed02312249d7b812d3bce04b4d93812d322e04b4b2b812d280e44b499b812d20ee04b470b912d1a0e04b45fb812d11ae04b4363812d082ec4b41fba12d00f00400f041163c4400008208a6da64010610501b699004003b4064461275a12d0d412d09212d048e04b40100100004000100004004001159c4400008204a440086085011002003b5278100008200a1c0086005007002003b487810000820000400c023b045f3806e040002
def Yj2 : S := zS [(zS [] X0h), (zS [] X0v), (zS [] X0k), (zS [] X0p)] n42
theorem Ypz : X1 Tryz.prog 42 0 Yj2 [.c 0 256 true] = true := by kernel_rfl
def n43 : Nat := 0x1000195179e0b1000410c1042085003786000
def Yml : S := zS [] n43
theorem Yso : X1 Tryz.prog 43 1 Yml [] = true := by kernel_rfl
def n44 : Nat := 0x10001880541c1042085083b450031000410c1042085003788000
def Ykq : S := zS [] n44
theorem Ynh : X1 Tryz.prog 44 1 Ykq [] = true := by kernel_rfl
def X0e : Nat := 0x4001240e0c0e4d45870200f0420ed0020030000c000200300400a08004004f7c6000
def n45 : Nat := 0x40283002042355339e0b2c00412810422450400411800081002020432380ed1cf0c661c0877830000820020421437840c2fb8381040ff871c0400447c400008004103be11040002
def Ymt : S := zS [(zS [] X0e)] n45
theorem Yqu : X1 Tryz.prog 45 1 Ymt [] = true := by kernel_rfl
def Xzu : Nat := 0x100a2430811652de083b4a026842000
def Xrt : Nat := 0x100a0c02890c20459158f9e0b88004184104280504004118001f1007ca24308119e06e5c802e75a2005fda3812d70b0c16bd003b5b55c05af420016bd640017f400ed60f0c05fd100017f5600000000080000000003f0ed54f0c359e2c000200a2440c20465047933800d20d3728e04b5104340f55c1000803540ed0830ce78900008028910308118c15e2800800020450801c32c40802ca24308118928d321040002
def n46 : Nat := 0x4002aa260c0e4da587020270840ed0020030000c000200300400a0c00400677c600000a2890c20451801402890c2045003b4021870225e0c00020800c2043003b400400020020421c3786142fb838104007971c0400467c400008004103be11040002
def Yip : S := zS [(zS [(zS [] Xzu)] Xrt)] n46
theorem Ynz : X1 Tryz.prog 46 1 Yip [] = true := by kernel_rfl
def n47 : Nat := 0x400020ed9560c0e4d901183b400800c00030000800c01002a305e05a69c083b620038400637dd0017df64005b7e004109f14081e7010426c501c79800009714000001140f38d30810b2891c614308101100320001354151404108c1523c00d161c0f9d900bee12b0e00141f01178d04108c14000b2892071850c408100b0022c400b002bf0bf00af2820b938024115a70800129f1000467c70410861401de0c000208500378a2481c3185102040280082
def Ymf : S := zS [] n47
theorem Yrx : X1 Tryz.prog 47 1 Ymf [] = true := by kernel_rfl
def n79 : Nat := 0x120008140378f06e348684b4e2c300df4000037d3002c1b8921412d28b0c027d000009f4800706e148484b462c3005f4000017d10023812d0cb0c000f00008000102e0de040002
def Ykt : S := zS [] n79
theorem Yse : X1 Tryz.prog 79 1 Ykt [.t 2] = true := by kernel_rfl
def n80 : Nat := 0x480020500de3c1b89200b8e308009f7ce44b4d38304cf4000133d2c0009f4ae44b4a403009f4000027d20002e1c523ce84b46383045f4000117d1002ba12d0d00c000f00008000102e0de040002
def Yla : S := zS [] n80
theorem Ysy : X1 Tryz.prog 80 1 Yla [.t 2] = true := by kernel_rfl
def n81 : Nat := 0x4800204c0de2c1b89206e84b4a2c3009f4000027d2001c1b8520605be0e005f4000017d1000c163838000b00008000102e0de040002
def Yka : S := zS [] n81
theorem Yn8 : X1 Tryz.prog 81 1 Yka [.t 2] = true := by kernel_rfl
def X0n : Nat := 0x400c009711e083b560030d77830000c8002040b8378100009c1007030036c968167839961570300065e1400020450801c35440150c00d448d0d361c0000d3784000082
def n82 : Nat := 0x120008106e0de04000200a0c0086005003002003b4004000208320008102e0de040002444011002401b8c20f24033d38163838033d003b4d55c00cf4000033d2c0281b87208e03b493c3007f4861c007f400001fd180083b4534311870015e38000208000102e0de040002
def Yjl : S := zS [(zS [] X0n)] n82
theorem Yo3 : X1 Tryz.prog 82 1 Yjl [.t 2] = true := by kernel_rfl
def n83 : Nat := 0x480020480de02e1c523ae04b46383045f4000117d100a3812d0d00c000700008000102e0de040002
def Yh6 : S := zS [] n83
theorem Yoh : X1 Tryz.prog 83 1 Yh6 [.t 2] = true := by kernel_rfl
def Xzv : Nat := 0x10051000cb19e083b4a00314b7830000c800308202e0000ed0de080002544015144004000000020000000000fc3b543c31157820000801440034c57923400d10d3728e04b500433ce55c1400003140ed08310d7890000811420070c910024510010818d0c761c000147784000082
def n84 : Nat := 0x12000c209e0160de741b9a228e04b5c30301af400ed6d57006bd00001af590020ed60b0d761c00011778b28920718510308100b00200a144003180140144003003b400400020801000800ed00100008000102e0000ed0de080002
def Yi6 : S := zS [(zS [] Xzv)] n84
theorem Ym4 : X1 Tryz.prog 84 1 Yi6 [.t 2, .t 3] = true := by kernel_rfl
def Xzw : Nat := 0x401030032857820ed2400c429e0c000320008106e0de0400023c400f10300438d2c300030b55c1000cc7850000811420070c81002040c010714d0c661c0c0106784000082
def n85 : Nat := 0x48002040b837810000802840c00c60050040c00c00ed001000082003002af0eb0bb0b70870f30bf08f0f70b30ef0a70a3075b3ef00100008000102e0de040002
def Yj3 : S := zS [(zS [] Xzw)] n85
theorem Yql : X1 Tryz.prog 85 1 Yj3 [.t 2] = true := by kernel_rfl
def Xvg : Nat := 0x100f3800f5b107820ed3c0da108000320008102e0de040002d2c100d0f380100bb3b25232b01ba820197d02ec6cac8028f70b01baeb0806bf7ae04b6fb0f0c0bbd10002ef6db0006bf68e04b6cb0d0c1afd10006bf6a000a3d1ba12da4c0c0a3d100028f6700197d003b662c3065f4300197d9008c91647920000803ce1440c01a219e841b9b200ba078801bf7ce84b5f38305ef440017bd74001bf4ae84b5c40301bf440006fd68002e65723ce44b58383057f440015fd5802b912d5500c459e3c000200f3840c015415e4d255c0c00137840000803ce0c011111e3c00800020450801c340408040f38010e3cd461040002
def Yf7 : Nat := 0x120008106e0de04000200a3ce0031801403ce003003b4035870039e0c000208320008102e0de04000230400c0022c1b88208e03b4a3c3008f4961c008f4000023d1c002f18b0c01de1c000208000102e0de040002
def X6h : S := zS [(zS [] Xvg)] Yf7
theorem X68 : X1 Tryz.prog 100 1 X6h [.t 2] = true := by kernel_rfl
def Yhn : Nat := 0x48002040b83781000083200081b6c0de02eb2ca48003b6b2c3069f6a001041a7d042082069f68000ba79089abc3ac2ec2dc21c3cc2fc23c3dc2cc3bc29c28c1d6cfbc2cb938193d940041064f4104108193d8c0083b622c38587200010410418603c000278401e0427df7860ed10b821080002200081743780b9c648000000020000000000fc3b5b383059f5a00104167d042082059f58000b97508003b56403054f5500104153d042082054f53000bd22c344004104105280e00008f1003c40434107840ed10b461080002200081383780b8d288003b4c2c304af4b0010412bd04208204af4900806ce0e1c00410410488090000851001440431867820ed10b1e10800020050040420c004104000208000208004102e000b11080002
def Yac : S := zS [] Yhn
theorem ok112 : X1 Tryz.prog 112 1 Yac [.t 2] = true := by kernel_rfl
def Yhu : Nat := 0x4800407115e0400020003900543c10421c534b04114f3000401000400520402800412410422050000002c0002001002141cf93400020000800400b115e040002
def X9p : S := zS [] Yhu
theorem ok113 : X1 Tryz.prog 113 2 X9p [.t 4] = true := by kernel_rfl
def Yht : Nat := 0x12001440b101215e4587010040000800413900543c104220534c04529d0402c0041281042245000000280002001002181cf93400020000800400b10000ed15e080002
def X9y : S := zS [] Yht
theorem ok114 : X1 Tryz.prog 114 2 X9y [.t 4, .t 5] = true := by kernel_rfl
def Ymy : Nat := 0x4800204d0de30715374b10a00131f1927050011df24104220500978404108314000c2ca2481031c614204030008000102f0de040002
def X9m : S := zS [] Ymy
theorem ok116 : X1 Tryz.prog 116 1 X9m [.t 2] = true := by kernel_rfl
def Xv1 : Nat := 0x10050400dc19e083b5b0031400c00011401c368401a14100402e65121805230147d5d655c051f4500147d540041051f5400008147d4c5051f4000147d040051f5000f28d0ce61c3400413000022c500014b791000082
def Ydj : Nat := 0x12001019857a50640606a7ea300195f7c00617c599e88104284502279e00009d14079e2ca2470c81851020402c00802850400c60050801410032467880010470410861401de14000200100202f15e040002
def X76 : S := zS [(zS [] Xv1)] Ydj
theorem Ydh : X1 Tryz.prog 118 2 X76 [.t 4] = true := by kernel_rfl
def Yk3 : Nat := 0x4800305711e581b94206e84b552c3014f4000053d4c0481b8b2060ed44b0c02fd40004100bf4d3c123b59c00bf4e0820802fd30500bf400002fd04004100bf4a0040ed24b0c80010451c123b59c18208210500004004154000200100202e11e040002
def Ycd : S := zS [] Yk3
theorem Ygw : X1 Tryz.prog 119 2 Ycd [.t 3] = true := by kernel_rfl
def Yir : Nat := 0x100069c0546c10425456580030805c00415810425450002400000800925015132bb0c22c544fa04b0f4000400c00030000800c010014100448404404e00104d2bb0c23050000002ca2481c61440c20402c008010200324a0541030c22000411c104218500778600008010200306c16f040002
def X87 : S := zS [] Yir
theorem Yf6 : X1 Tryz.prog 120 3 X87 [] = true := by kernel_rfl
def Yix : Nat := 0x12000c12847860ed24b0c80010451c123b59c18208210500004004120000200100202e11e040002
def X7e : S := zS [] Yix
theorem Yfz : X1 Tryz.prog 121 2 X7e [.t 3] = true := by kernel_rfl
def Ylo : Nat := 0x4800404715e1850b5e4e04000010000200100202e15e040002
def X9t : S := zS [] Ylo
theorem Ygv : X1 Tryz.prog 122 2 X9t [.t 4] = true := by kernel_rfl
def Yli : Nat := 0x120008110379412d0cc0c000300008000102e0de040002
def X7p : S := zS [] Yli
theorem Ydf : X1 Tryz.prog 123 1 X7p [.t 2] = true := by kernel_rfl
def Yh5 : Nat := 0x4800405115e02e40a20f38b0c12bd04004af4d0402da7012bd3187012bd04004af400012bd2402064031d870100561c00038000200100202e15e040002
def Ybw : S := zS [] Yh5
theorem Yeq : X1 Tryz.prog 173 2 Ybw [.t 4] = true := by kernel_rfl
end Go.Proofs.YtanpgmgkmfckaaaGreatDoor
