/- Objects lent to a call that only reads: it sees them as data. Over any program; no condition. -/
import Derived.Test.YtlkpnkkgkjkmbaaDoorAb22
namespace Go.Ab
open Go

def seqO {α β : Type} (f : α → Option β) : List α → Option (List β)
  | [] => some []
  | x :: r => match f x with
    | some y => match seqO f r with
      | some l => some (y :: l)
      | none => none
    | none => none
def lentO (k : Nat) : Option Ob → Option D
  | some (.arr _ sz xs) => if sz ≠ 0 ∧ k = xs.length then some (.list sz xs) else none
  | _ => none
def refO (f : V → Option D) : Option V → Option D
  | some t => (f t).map .ref
  | none => none
/-- what a value reads as, objects and all -/
def V.toD (ob : Objs) : Nat → V → Option D
  | 0, _ => none
  | _ + 1, .d x => some x
  | n + 1, .ptr id p => refO (V.toD ob n) (atO ob id p)
  | _ + 1, .sl id k => lentO k (lookO ob id)
  | n + 1, .fn f fi ca => match seqO (V.toD ob n) fi, seqO (V.toD ob n) ca with
    | some l, some m => some (.fn f l m)
    | _, _ => none
  | n + 1, .agg xs => (seqO (V.toD ob n) xs).map .agg
  | n + 1, .iface t x => (V.toD ob n x).map (.iface t)
  | _ + 1, _ => none
def V.toDs (ob : Objs) (n : Nat) (vs : List V) : Option (List D) := seqO (V.toD ob n) vs

mutual
/-- nothing of it lies in memory -/
def D.flat : D → Bool
  | .agg xs => D.flats xs
  | .list _ _ | .ref _ | .fn _ _ _ | .iface _ _ => false
  | _ => true
def D.flats : List D → Bool
  | [] => true
  | x :: r => x.flat && D.flats r
end
def V.flat : V → Bool
  | .d x => x.flat
  | _ => false
def V.flatR : V → Bool
  | .d x => x.flat
  | .tup xs => xs.all V.flat
  | _ => false

section
variable {w : World} {ρ : Env} {ob : Objs}
def noOw : Nat → Prop := fun _ => False
theorem mono_no : Mono w (own ρ) w noOw := fun _ _ _ => ⟨rfl, fun h => h⟩

mutual
theorem D.flat_rep {ow ow' : Nat → Prop} : ∀ (x : D) (cs : List Value), x.flat = true → x.rep w ow cs → x.rep w ow' cs
  | .int _ _, _, _, h | .bool _, _, _, h | .str _, _, _, h | .nils, _, _, h | .nili, _, _, h | .nilp, _, _, h | .nilf, _, _, h => by simpa only [D.rep] using h
  | .agg xs, cs, hf, h => by simp only [D.rep] at h ⊢; simp only [D.flat] at hf; exact D.flats_rep xs cs hf h
  | .list _ _, _, hf, _ | .ref _, _, hf, _ | .fn _ _ _, _, hf, _ | .iface _ _, _, hf, _ => by simp [D.flat] at hf
theorem D.flats_rep {ow ow' : Nat → Prop} : ∀ (xs : List D) (cs : List Value), D.flats xs = true → D.repL w ow xs cs → D.repL w ow' xs cs
  | [], _, _, h => by simpa only [D.repL] using h
  | x :: r, cs, hf, h => by
    simp only [D.repL] at h ⊢
    simp only [D.flats, Bool.and_eq_true] at hf
    obtain ⟨c1, c2, e, h1, h2⟩ := h
    exact ⟨c1, c2, e, D.flat_rep x c1 hf.1 h1, D.flats_rep r c2 hf.2 h2⟩
end
theorem V.flat_rep {ρ' : Env} {v : V} {u : Value} (hf : v.flat = true) (h : v.rep w ρ u) : v.rep w ρ' u := by
  cases v with
  | d x =>
    simp only [V.flat] at hf
    rw [rep_d] at h ⊢
    rcases h with ⟨a, ds, e, r⟩ | ⟨a, r⟩
    · exact .inl ⟨a, ds, e, D.flat_rep x ds hf r⟩
    · exact .inr ⟨a, D.flat_rep x _ hf r⟩
  | _ => simp [V.flat] at hf
theorem V.flats_rep {ρ' : Env} : ∀ {vs : List V} {us : List Value}, vs.all V.flat = true → V.reps w ρ vs us → V.reps w ρ' vs us
  | [], _, _, h => by simpa only [V.reps] using h
  | v :: r, us, hf, h => by
    simp only [List.all_cons, Bool.and_eq_true] at hf
    simp only [V.reps] at h ⊢
    obtain ⟨u, us', e, h1, h2⟩ := h
    exact ⟨u, us', e, V.flat_rep (ρ := ρ) (u := u) hf.1 h1, V.flats_rep hf.2 h2⟩
theorem V.flatR_rep {ρ' : Env} {v : V} {u : Value} (hf : v.flatR = true) (h : v.rep w ρ u) : v.rep w ρ' u := by
  cases v with
  | d x => exact V.flat_rep (v := .d x) hf h
  | tup xs =>
    rw [rep_tup] at h ⊢
    obtain ⟨vs, e, h⟩ := h
    exact ⟨vs, e, V.flats_rep hf h⟩
  | _ => simp [V.flatR] at hf

theorem toD_sound (hO : OM w ρ ob) : ∀ (n : Nat) (v : V) (cs : List Value) (y : D), v.repC w ρ cs → V.toD ob n v = some y → y.rep w noOw cs ∧ y.isAgg = v.isAgg := by
  intro n
  induction n with
  | zero => intro v cs y _ h; simp [V.toD] at h
  | succ n ih =>
    have ihT : ∀ (v : V) (u : Value) (y : D), v.rep w ρ u → V.toD ob n v = some y → (y.isAgg = true ∧ ∃ ds, u = .agg ds.toArray ∧ y.rep w noOw ds) ∨ (y.isAgg = false ∧ y.rep w noOw [u]) := by
      intro v u y h e
      rcases h with h | ⟨a, ds, q, r⟩ | ⟨a, r⟩
      · subst h; cases n <;> simp [V.toD] at e
      · obtain ⟨h1, h2⟩ := ih v ds y r e; exact .inl ⟨h2.trans a, ds, q, h1⟩
      · obtain ⟨h1, h2⟩ := ih v _ y r e; exact .inr ⟨h2.trans a, h1⟩
    have seqT : ∀ (vs : List V) (us : List Value) (l : List D), V.reps w ρ vs us → seqO (V.toD ob n) vs = some l → D.repT w noOw l us := by
      intro vs
      induction vs with
      | nil => intro us l h e; simp only [seqO] at e; cases e; simpa only [V.reps, D.repT] using h
      | cons v r ihr =>
        intro us l h e
        simp only [V.reps] at h
        obtain ⟨u, us', rfl, h1, h2⟩ := h
        simp only [seqO] at e
        split at e
        · rename_i y hy
          split at e
          · rename_i l' hl; cases e
            simp only [D.repT]
            exact ⟨u, us', rfl, ihT v u y h1 hy, ihr us' l' h2 hl⟩
          · cases e
        · cases e
    have seqC : ∀ (vs : List V) (cs : List Value) (l : List D), V.repCs w ρ vs cs → seqO (V.toD ob n) vs = some l → D.repL w noOw l cs := by
      intro vs
      induction vs with
      | nil => intro us l h e; simp only [seqO] at e; cases e; simpa only [V.repCs, D.repL] using h
      | cons v r ihr =>
        intro cs l h e
        simp only [V.repCs] at h
        obtain ⟨c1, c2, rfl, h1, h2⟩ := h
        simp only [seqO] at e
        split at e
        · rename_i y hy
          split at e
          · rename_i l' hl; cases e
            simp only [D.repL]
            exact ⟨c1, c2, rfl, (ih v c1 y h1 hy).1, ihr c2 l' h2 hl⟩
          · cases e
        · cases e
    intro v cs y h e
    cases v with
    | d x =>
      simp only [V.toD] at e; cases e
      simp only [V.repC] at h
      exact ⟨D.rep_mono mono_no _ _ h, by cases y <;> rfl⟩
    | ptr id p =>
      simp only [V.toD] at e
      cases hat : atO ob id p with
      | none => rw [hat] at e; simp only [refO] at e; cases e
      | some t =>
        simp only [hat, refO, Option.map_eq_some_iff] at e
        obtain ⟨z, hz, rfl⟩ := e
        obtain ⟨t0, b, cs0, E, g1, g2, g3, g4, g5⟩ := box_of hO hat
        have hr : (V.ptr id p).rep w ρ (cs.headD undef) := by
          have hl := V.repC_len _ _ h
          simp [V.shape, Sh.size] at hl
          obtain ⟨c, rfl⟩ := List.length_eq_one_iff.1 hl
          exact .inr (.inr ⟨rfl, by simpa using h⟩)
        obtain ⟨b', sh, hρ, hu⟩ := rep_ptr_box hO g1 hr
        rw [g3] at hρ; cases hρ
        have hl := V.repC_len _ _ h
        simp [V.shape, Sh.size] at hl
        obtain ⟨c, rfl⟩ := List.length_eq_one_iff.1 hl
        simp only [List.headD_cons] at hu
        subst hu
        obtain ⟨c1, c2, c3, e1, e2, h5⟩ := V.repC_at p t0 t cs0 g5 g2
        refine ⟨?_, rfl⟩
        simp only [D.rep]
        refine ⟨_, c2, rfl, ⟨rfl, fun _ => ⟨fun h => h, lt_of_some g4⟩, fun i hi => ?_⟩, (ih t c2 z h5 hz).1⟩
        rw [← e2]
        simp [World.cell?, g4, e1, List.getElem?_append, hi]
    | sl id k =>
      simp only [V.toD] at e
      unfold lentO at e
      split at e
      · rename_i E sz xs hl
        split at e
        · rename_i hc; cases e
          obtain ⟨hsz, rfl⟩ := hc
          simp only [V.repC] at h
          obtain ⟨o, u, h1, rfl, h2⟩ := h
          have := give_arr hO hl hsz (u := u) (by rw [rep_sl]; exact ⟨o, h1, h2⟩)
          rw [rep_leaf (by simp [V.isAgg]) (by simp)] at this
          simp only [V.repC] at this
          exact ⟨D.rep_mono (ow' := noOw) (fun _ _ _ => ⟨rfl, fun h => h⟩) _ _ this, rfl⟩
        · cases e
      · cases e
    | fn f fi ca =>
      simp only [V.toD] at e
      split at e
      · rename_i l m hl hm
        cases e
        simp only [V.repC] at h
        obtain ⟨fs, gs, e1, h1, h2⟩ := h
        exact ⟨by simp only [D.rep]; exact ⟨fs, gs, e1, seqT fi fs l h1 hl, seqT ca gs m h2 hm⟩, rfl⟩
      · cases e
    | agg xs =>
      simp only [V.toD, Option.map_eq_some_iff] at e
      obtain ⟨l, hl, rfl⟩ := e
      simp only [V.repC] at h
      exact ⟨by simp only [D.rep]; exact seqC xs cs l h hl, rfl⟩
    | iface t x =>
      simp only [V.toD, Option.map_eq_some_iff] at e
      obtain ⟨z, hz, rfl⟩ := e
      simp only [V.repC] at h
      obtain ⟨u, e1, h1⟩ := h
      exact ⟨by simp only [D.rep]; exact ⟨u, e1, ihT x u z h1 hz⟩, rfl⟩
    | _ => simp [V.toD] at e

theorem toDs_sound (hO : OM w ρ ob) {n : Nat} : ∀ (vs : List V) (us : List Value) (l : List D), V.reps w ρ vs us → V.toDs ob n vs = some l → D.repT w noOw l us
  | [], us, l, h, e => by simp only [V.toDs, seqO] at e; cases e; simpa only [V.reps, D.repT] using h
  | v :: r, us, l, h, e => by
    simp only [V.reps] at h
    obtain ⟨u, us', rfl, h1, h2⟩ := h
    simp only [V.toDs, seqO] at e
    split at e
    · rename_i y hy
      split at e
      · rename_i l' hl; cases e
        simp only [D.repT]
        refine ⟨u, us', rfl, ?_, toDs_sound hO r us' l' h2 hl⟩
        rcases h1 with h | ⟨a, ds, q, r⟩ | ⟨a, r⟩
        · subst h; cases n <;> simp [V.toD] at hy
        · obtain ⟨h1, h2⟩ := toD_sound hO n v ds y r hy; exact .inl ⟨h2.trans a, ds, q, h1⟩
        · obtain ⟨h1, h2⟩ := toD_sound hO n v _ y r hy; exact .inr ⟨h2.trans a, h1⟩
      · cases e
    · cases e

/-- **Lent objects**: a call that only reads sees them as data. -/
theorem PCall.borrow {P : Prg} {f n : Nat} {vs : List V} {ds : List D} {K : V → Prop} (hd : V.toDs ob n vs = some ds) (h : PCall P f (ds.map .d) [] fun v => v.flatR = true ∧ K v) : PCall P f vs ob K := by
  refine ⟨fun w ρ args hO hg hr => ?_⟩
  let ρ0 : Env := ⟨fun _ => none, noOw, ρ.gl⟩
  have hno : ∀ b, ¬ own ρ0 b := fun b h => h.elim (fun ⟨_, _, h, _⟩ => by cases h) (fun h => h)
  have hO0 : OM w ρ0 [] := ⟨fun j x hx => (by simp [lookO] at hx), fun j o hj => (by cases hj), fun i j o p b hi => (by cases hi), fun b hb => hb.elim, fun b o hb => ⟨(hO.glb b o hb).1, hno b⟩, fun b hb => absurd (.inl hb) (hno b), trivial⟩
  have hr0 : V.reps w ρ0 (ds.map .d) args := by
    rw [reps_d]
    have := toDs_sound hO vs args ds hr hd
    exact D.repT_mono (ow := noOw) (fun _ _ _ => ⟨rfl, hno _⟩) _ _ this
  refine (h.run w ρ0 args hO0 hg hr0).mono fun e w' ⟨v, u, ⟨k1, k2⟩, he, r, x⟩ => ⟨v, u, k2, he, V.flatR_rep k1 r, x⟩
/-- data handed on is data -/
theorem PCall.data {P : Prg} {f : Nat} {vs : List V} {ds : List D} {K : V → Prop} (hd : vs = ds.map .d) (h : PCall P f (ds.map .d) ob K) : PCall P f vs ob K := by subst hd; exact h
end

section
variable (ob : Objs) (n k f : Nat) (x : D) (v : V) (vs : List V) (p : List Nat)
@[simp] theorem toD_d : V.toD ob (n + 1) (.d x) = some x := by simp only [V.toD]
@[simp] theorem toD_ptr : V.toD ob (n + 1) (.ptr k p) = refO (V.toD ob n) (atO ob k p) := by simp only [V.toD]
@[simp] theorem toD_sl (m : Nat) : V.toD ob (n + 1) (.sl k m) = lentO m (lookO ob k) := by simp only [V.toD]
@[simp] theorem lentO_s (m E sz : Nat) (xs : List D) : lentO m (some (.arr E sz xs)) = if sz ≠ 0 ∧ m = xs.length then some (.list sz xs) else none := by simp only [lentO]
@[simp] theorem refO_s (g : V → Option D) : refO g (some v) = (g v).map .ref := by simp only [refO]
def fnO (f : Nat) : Option (List D) → Option (List D) → Option D
  | some l, some m => some (.fn f l m)
  | _, _ => none
@[simp] theorem toD_fn (l l' : List V) : V.toD ob (n + 1) (.fn f l l') = fnO f (seqO (V.toD ob n) l) (seqO (V.toD ob n) l') := by
  simp only [V.toD]; cases seqO (V.toD ob n) l <;> cases seqO (V.toD ob n) l' <;> rfl
@[simp] theorem fnO_ss (l l' : List D) : fnO f (some l) (some l') = some (.fn f l l') := by simp only [fnO]
@[simp] theorem toD_agg : V.toD ob (n + 1) (.agg vs) = (seqO (V.toD ob n) vs).map .agg := by simp only [V.toD]
@[simp] theorem toD_ifc : V.toD ob (n + 1) (.iface k v) = (V.toD ob n v).map (.iface k) := by simp only [V.toD]
@[simp] theorem toDs_eq : V.toDs ob n vs = seqO (V.toD ob n) vs := by simp only [V.toDs]
@[simp] theorem seqO_nil {α β : Type} (g : α → Option β) : seqO g [] = some [] := by simp only [seqO]
def seqC {β : Type} : Option β → Option (List β) → Option (List β)
  | some y, some l => some (y :: l)
  | _, _ => none
@[simp] theorem seqO_cons {α β : Type} (g : α → Option β) (a : α) (l : List α) : seqO g (a :: l) = seqC (g a) (seqO g l) := by
  simp only [seqO]; cases g a <;> cases seqO g l <;> rfl
@[simp] theorem seqC_ss {β : Type} (y : β) (l : List β) : seqC (some y) (some l) = some (y :: l) := by simp only [seqC]
end
attribute [simp] D.flat D.flats V.flat V.flatR
end Go.Ab
