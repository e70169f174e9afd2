/- Texts of this claim joined by a program, part 5 of 15; the last is: The same statements with their regions folded into expressions, printed by the fold itself; that they are that is checked by the kernel. No condition. -/
import Derived.Test.YtmapdjjigmkbfaaGreatDoorD1
import Derived.Test.YtmapdjjigmkbfaaGreatDoorD4
import Derived.Defers
import Derived.Recover
import Derived.Test.YtmapdjjigmkbfaaGreatDoorProg
import Derived.KernelRfl
set_option linter.unusedSimpArgs false
set_option linter.unusedVariables false
set_option linter.unusedSectionVars false
set_option linter.defProp false
/- Objects lent to a call that only reads: it sees them as data. Over any program; no condition. -/
namespace Go.Ab
open Go

def Ju {α β : Type} (f : α → Option β) : List α → Option (List β)
 | [] => some []
 | x :: r => match f x with
  | some y => match Ju f r with
   | some l => some (y :: l)
   | none => none
  | none => none
def Xpj (k : Nat) : Option Ob → Option D
 | some (.arr _ sz xs) => if sz ≠ 0 ∧ k = xs.length then some (.list sz xs) else none
 | _ => none
def refO (f : V → Option D) : Option V → Option D
 | some t => (f t).map .ref
 | none => none
def V.toD (ob : Objs) : Nat → V → Option D
 | 0, _ => none
 | _ + 1, .d x => some x
 | n + 1, .ptr id p => refO (V.toD ob n) (atO ob id p)
 | _ + 1, .sl id k => Xpj k (lookO ob id)
 | n + 1, .fn f fi ca => match Ju (V.toD ob n) fi, Ju (V.toD ob n) ca with
  | some l, some m => some (.fn f l m)
  | _, _ => none
 | n + 1, .agg xs => (Ju (V.toD ob n) xs).map .agg
 | n + 1, .iface t x => (V.toD ob n x).map (.iface t)
 | _ + 1, _ => none
def V.toDs (ob : Objs) (n : Nat) (vs : List V) : Option (List D) := Ju (V.toD ob n) vs

mutual
def D.flat : D → Bool
 | .agg xs => D.flats xs
 | .list _ _ | .ref _ | .fn _ _ _ | .iface _ _ => false
 | _ => true
def D.flats : List D → Bool
 | [] => true
 | x :: r => x.flat && D.flats r
end
def V.flat : V → Bool
 | .d x => x.flat
 | _ => false
def V.flatR : V → Bool
 | .d x => x.flat
 | .tup xs => xs.all V.flat
 | _ => false

section
variable {w : World} {ρ : Env} {ob : Objs}
def Xsi : Nat → Prop := fun _ => False
theorem X2u : Xe1 w (own ρ) w Xsi := fun _ _ _ => ⟨rfl, fun h => h⟩

mutual
theorem D.flat_rep {ow ow' : Nat → Prop} : ∀ (x : D) (cs : List Value), x.flat = true → x.rep w ow cs → x.rep w ow' cs
 | .int _ _, _, _, h | .bool _, _, _, h | .str _, _, _, h | .nils, _, _, h | .nili, _, _, h | .nilp, _, _, h | .nilf, _, _, h | .nilm, _, _, h => by simpa only [D.rep] using h
 | .agg xs, cs, hf, h => by simp only [D.rep] at h ⊢; simp only [D.flat] at hf; exact D.flats_rep xs cs hf h
 | .list _ _, _, hf, _ | .ref _, _, hf, _ | .fn _ _ _, _, hf, _ | .iface _ _, _, hf, _ => by simp [D.flat] at hf
theorem D.flats_rep {ow ow' : Nat → Prop} : ∀ (xs : List D) (cs : List Value), D.flats xs = true → D.repL w ow xs cs → D.repL w ow' xs cs
 | [], _, _, h => by simpa only [D.repL] using h
 | x :: r, cs, hf, h => by
  simp only [D.repL] at h ⊢
  simp only [D.flats, Bool.and_eq_true] at hf
  obtain ⟨c1, c2, e, h1, h2⟩ := h
  exact ⟨c1, c2, e, D.flat_rep x c1 hf.1 h1, D.flats_rep r c2 hf.2 h2⟩
end
theorem V.flat_rep {ρ' : Env} {v : V} {u : Value} (hf : v.flat = true) (h : v.rep w ρ u) : v.rep w ρ' u := by
 cases v with
 | d x =>
  simp only [V.flat] at hf
  rw [Q3] at h ⊢
  rcases h with ⟨a, ds, e, r⟩ | ⟨a, r⟩
  ·exact .inl ⟨a, ds, e, D.flat_rep x ds hf r⟩
  ·exact .inr ⟨a, D.flat_rep x _ hf r⟩
 | _ => simp [V.flat] at hf
theorem V.flats_rep {ρ' : Env} : ∀ {vs : List V} {us : List Value}, vs.all V.flat = true → V.reps w ρ vs us → V.reps w ρ' vs us
 | [], _, _, h => by simpa only [V.reps] using h
 | v :: r, us, hf, h => by
  simp only [List.all_cons, Bool.and_eq_true] at hf
  simp only [V.reps] at h ⊢
  obtain ⟨u, us', e, h1, h2⟩ := h
  exact ⟨u, us', e, V.flat_rep (ρ := ρ) (u := u) hf.1 h1, V.flats_rep hf.2 h2⟩
theorem V.flatR_rep {ρ' : Env} {v : V} {u : Value} (hf : v.flatR = true) (h : v.rep w ρ u) : v.rep w ρ' u := by
 cases v with
 | d x => exact V.flat_rep (v := .d x) hf h
 | tup xs =>
  rw [rep_tup] at h ⊢
  obtain ⟨vs, e, h⟩ := h
  exact ⟨vs, e, V.flats_rep hf h⟩
 | _ => simp [V.flatR] at hf

theorem Xg4 (hO : OM w ρ ob) : ∀ (n : Nat) (v : V) (cs : List Value) (y : D), v.repC w ρ cs → V.toD ob n v = some y → y.rep w Xsi cs ∧ y.isAgg = v.isAgg := by
 intro n
 induction n with
 | zero => intro v cs y _ h; simp [V.toD] at h
 | succ n ih =>
  have ihT : ∀ (v : V) (u : Value) (y : D), v.rep w ρ u → V.toD ob n v = some y → (y.isAgg = true ∧ ∃ ds, u = .agg ds.toArray ∧ y.rep w Xsi ds) ∨ (y.isAgg = false ∧ y.rep w Xsi [u]) := by
   intro v u y h e
   rcases h with h | ⟨a, ds, q, r⟩ | ⟨a, r⟩
   ·subst h; cases n <;> simp [V.toD] at e
   ·obtain ⟨h1, h2⟩ := ih v ds y r e; exact .inl ⟨h2.trans a, ds, q, h1⟩
   ·obtain ⟨h1, h2⟩ := ih v _ y r e; exact .inr ⟨h2.trans a, h1⟩
  have seqT : ∀ (vs : List V) (us : List Value) (l : List D), V.reps w ρ vs us → Ju (V.toD ob n) vs = some l → D.repT w Xsi l us := by
   intro vs
   induction vs with
   | nil => intro us l h e; simp only [Ju] at e; cases e; simpa only [V.reps, D.repT] using h
   | cons v r ihr =>
    intro us l h e
    simp only [V.reps] at h
    obtain ⟨u, us', rfl, h1, h2⟩ := h
    simp only [Ju] at e
    split at e
    ·rename_i y hy
     split at e
     ·rename_i l' hl; cases e
      simp only [D.repT]
      exact ⟨u, us', rfl, ihT v u y h1 hy, ihr us' l' h2 hl⟩
     ·cases e
    ·cases e
  have X7l : ∀ (vs : List V) (cs : List Value) (l : List D), V.repCs w ρ vs cs → Ju (V.toD ob n) vs = some l → D.repL w Xsi l cs := by
   intro vs
   induction vs with
   | nil => intro us l h e; simp only [Ju] at e; cases e; simpa only [V.repCs, D.repL] using h
   | cons v r ihr =>
    intro cs l h e
    simp only [V.repCs] at h
    obtain ⟨c1, c2, rfl, h1, h2⟩ := h
    simp only [Ju] at e
    split at e
    ·rename_i y hy
     split at e
     ·rename_i l' hl; cases e
      simp only [D.repL]
      exact ⟨c1, c2, rfl, (ih v c1 y h1 hy).1, ihr c2 l' h2 hl⟩
     ·cases e
    ·cases e
  intro v cs y h e
  cases v with
  | d x =>
   simp only [V.toD] at e; cases e
   simp only [V.repC] at h
   exact ⟨D.rep_mono X2u _ _ h, by cases y <;> rfl⟩
  | ptr id p =>
   simp only [V.toD] at e
   cases hat : atO ob id p with
   | none => rw [hat] at e; simp only [refO] at e; cases e
   | some t =>
    simp only [hat, refO, Option.map_eq_some_iff] at e
    obtain ⟨z, hz, rfl⟩ := e
    obtain ⟨t0, b, cs0, E, g1, g2, g3, g4, g5⟩ := Un hO hat
    have hr : (V.ptr id p).rep w ρ (cs.headD undef) := by
     have hl := V.repC_len _ _ h
     simp [V.shape, Sh.size] at hl
     obtain ⟨c, rfl⟩ := List.length_eq_one_iff.1 hl
     exact .inr (.inr ⟨rfl, by simpa using h⟩)
    obtain ⟨b', sh, hρ, hu⟩ := rep_ptr_box hO g1 hr
    rw [g3] at hρ; cases hρ
    have hl := V.repC_len _ _ h
    simp [V.shape, Sh.size] at hl
    obtain ⟨c, rfl⟩ := List.length_eq_one_iff.1 hl
    simp only [List.headD_cons] at hu
    subst hu
    obtain ⟨c1, c2, c3, e1, e2, h5⟩ := V.repC_at p t0 t cs0 g5 g2
    refine ⟨?_, rfl⟩
    simp only [D.rep]
    refine ⟨_, c2, rfl, rfl, ⟨fun _ => ⟨rfl, fun h => h, Xj g4⟩, fun i hi => ?_⟩, (ih t c2 z h5 hz).1⟩
    rw [← e2]
    simp [World.cell?, g4, e1, List.getElem?_append, hi]
  | sl id k =>
   simp only [V.toD] at e
   unfold Xpj at e
   split at e
   ·rename_i E sz xs hl
    split at e
    ·rename_i hc; cases e
     obtain ⟨hsz, rfl⟩ := hc
     simp only [V.repC] at h
     obtain ⟨o, u, h1, rfl, h2⟩ := h
     have := Uv hO hl hsz (u := u) (by rw [Yi]; exact ⟨o, h1, h2⟩)
     rw [Zq (by simp [V.isAgg]) (by simp)] at this
     simp only [V.repC] at this
     exact ⟨D.rep_mono (ow' := Xsi) (fun _ _ _ => ⟨rfl, fun h => h⟩) _ _ this, rfl⟩
    ·cases e
   ·cases e
  | fn f fi ca =>
   simp only [V.toD] at e
   split at e
   ·rename_i l m hl hm
    cases e
    simp only [V.repC] at h
    obtain ⟨fs, gs, e1, h1, h2⟩ := h
    exact ⟨by simp only [D.rep]; exact ⟨fs, gs, e1, seqT fi fs l h1 hl, seqT ca gs m h2 hm⟩, rfl⟩
   ·cases e
  | agg xs =>
   simp only [V.toD, Option.map_eq_some_iff] at e
   obtain ⟨l, hl, rfl⟩ := e
   simp only [V.repC] at h
   exact ⟨by simp only [D.rep]; exact X7l xs cs l h hl, rfl⟩
  | iface t x =>
   simp only [V.toD, Option.map_eq_some_iff] at e
   obtain ⟨z, hz, rfl⟩ := e
   simp only [V.repC] at h
   obtain ⟨u, e1, h1⟩ := h
   exact ⟨by simp only [D.rep]; exact ⟨u, e1, ihT x u z h1 hz⟩, rfl⟩
  | _ => simp [V.toD] at e

theorem Xc8 (hO : OM w ρ ob) {n : Nat} : ∀ (vs : List V) (us : List Value) (l : List D), V.reps w ρ vs us → V.toDs ob n vs = some l → D.repT w Xsi l us
 | [], us, l, h, e => by simp only [V.toDs, Ju] at e; cases e; simpa only [V.reps, D.repT] using h
 | v :: r, us, l, h, e => by
  simp only [V.reps] at h
  obtain ⟨u, us', rfl, h1, h2⟩ := h
  simp only [V.toDs, Ju] at e
  split at e
  ·rename_i y hy
   split at e
   ·rename_i l' hl; cases e
    simp only [D.repT]
    refine ⟨u, us', rfl, ?_, Xc8 hO r us' l' h2 hl⟩
    rcases h1 with h | ⟨a, ds, q, r⟩ | ⟨a, r⟩
    ·subst h; cases n <;> simp [V.toD] at hy
    ·obtain ⟨h1, h2⟩ := Xg4 hO n v ds y r hy; exact .inl ⟨h2.trans a, ds, q, h1⟩
    ·obtain ⟨h1, h2⟩ := Xg4 hO n v _ y r hy; exact .inr ⟨h2.trans a, h1⟩
   ·cases e
  ·cases e

theorem PCall.borrow {P : Prg} {f n : Nat} {vs : List V} {ds : List D} {K : V → Prop} (hd : V.toDs ob n vs = some ds) (h : PCall P f (ds.map .d) [] fun v => v.flatR = true ∧ K v) : PCall P f vs ob K := by
 refine ⟨fun w ρ args hO hg hr => ?_⟩
 let ρ0 : Env := ⟨fun _ => none, Xsi, ρ.gl⟩
 have hno : ∀ b, ¬ own ρ0 b := fun b h => h.elim (fun ⟨_, _, h, _⟩ => by cases h) (fun h => h)
 have hO0 : OM w ρ0 [] := ⟨fun j x hx => (by simp [lookO] at hx), fun j o hj => (by cases hj), fun i j o p b hi => (by cases hi), fun b hb => hb.elim, fun b o hb => ⟨(hO.glb b o hb).1, hno b⟩, fun b hb => absurd (.inl hb) (hno b), trivial⟩
 have hr0 : V.reps w ρ0 (ds.map .d) args := by
  rw [Xgs]
  have := Xc8 hO vs args ds hr hd
  exact D.repT_mono (ow := Xsi) (fun _ _ _ => ⟨rfl, hno _⟩) _ _ this
 refine (h.run w ρ0 args hO0 hg hr0).mono fun e w' ⟨v, u, ⟨k1, k2⟩, he, r, x⟩ => ⟨v, u, k2, he, V.flatR_rep k1 r, x⟩
theorem PCall.data {P : Prg} {f : Nat} {vs : List V} {ds : List D} {K : V → Prop} (hd : vs = ds.map .d) (h : PCall P f (ds.map .d) ob K) : PCall P f vs ob K := by subst hd; exact h
end

section
variable (ob : Objs) (n k f : Nat) (x : D) (v : V) (vs : List V) (p : List Nat)
@[simp] theorem toD_d : V.toD ob (n + 1) (.d x) = some x := by simp only [V.toD]
@[simp] theorem toD_ptr : V.toD ob (n + 1) (.ptr k p) = refO (V.toD ob n) (atO ob k p) := by simp only [V.toD]
@[simp] theorem toD_sl (m : Nat) : V.toD ob (n + 1) (.sl k m) = Xpj m (lookO ob k) := by simp only [V.toD]
@[simp] theorem lentO_s (m E sz : Nat) (xs : List D) : Xpj m (some (.arr E sz xs)) = if sz ≠ 0 ∧ m = xs.length then some (.list sz xs) else none := by simp only [Xpj]
@[simp] theorem refO_s (g : V → Option D) : refO g (some v) = (g v).map .ref := by simp only [refO]
def fnO (f : Nat) : Option (List D) → Option (List D) → Option D
 | some l, some m => some (.fn f l m)
 | _, _ => none
@[simp] theorem toD_fn (l l' : List V) : V.toD ob (n + 1) (.fn f l l') = fnO f (Ju (V.toD ob n) l) (Ju (V.toD ob n) l') := by
 simp only [V.toD]; cases Ju (V.toD ob n) l <;> cases Ju (V.toD ob n) l' <;> rfl
@[simp] theorem fnO_ss (l l' : List D) : fnO f (some l) (some l') = some (.fn f l l') := by simp only [fnO]
@[simp] theorem toD_agg : V.toD ob (n + 1) (.agg vs) = (Ju (V.toD ob n) vs).map .agg := by simp only [V.toD]
@[simp] theorem toDs_eq : V.toDs ob n vs = Ju (V.toD ob n) vs := by simp only [V.toDs]
@[simp] theorem seqO_nil {α β : Type} (g : α → Option β) : Ju g [] = some [] := by simp only [Ju]
def X7l {β : Type} : Option β → Option (List β) → Option (List β)
 | some y, some l => some (y :: l)
 | _, _ => none
@[simp] theorem seqO_cons {α β : Type} (g : α → Option β) (a : α) (l : List α) : Ju g (a :: l) = X7l (g a) (Ju g l) := by
 simp only [Ju]; cases g a <;> cases Ju g l <;> rfl
@[simp] theorem seqC_ss {β : Type} (y : β) (l : List β) : X7l (some y) (some l) = some (y :: l) := by simp only [X7l]
end
attribute [simp] D.flat D.flats V.flat V.flatR
end Go.Ab
/- Nil slices taken as empty ones, at any depth of data. Over any program; no condition. -/
namespace Go.Ab
open Go
mutual
def D.le : D → D → Prop
 | .nils, y => y = .nils ∨ ∃ sz, y = .list sz []
 | .agg xs, y => ∃ ys, y = .agg ys ∧ D.les xs ys
 | .list a xs, y => ∃ ys, y = .list a ys ∧ D.les xs ys
 | .int k n, y => y = .int k n
 | .bool b, y => y = .bool b
 | .str s, y => y = .str s
 | .nili, y => y = .nili
 | .nilp, y => y = .nilp
 | .nilf, y => y = .nilf
 | .nilm, y => y = .nilm
 | .ref x, y => y = .ref x
 | .iface t x, y => y = .iface t x
 | .fn f a b, y => y = .fn f a b
def D.les : List D → List D → Prop
 | [], l => l = []
 | x :: r, l => ∃ y s, l = y :: s ∧ D.le x y ∧ D.les r s
end
mutual
theorem D.le.same : ∀ {x y : D}, D.le x y → y.sz = x.sz ∧ y.isAgg = x.isAgg
 | .nils, y, h => by
  simp only [D.le] at h
  rcases h with rfl | ⟨_, rfl⟩ <;> exact ⟨by simp [D.sz], rfl⟩
 | .agg xs, y, h => by
  simp only [D.le] at h
  obtain ⟨ys, rfl, h⟩ := h
  exact ⟨by simp only [D.sz]; exact D.les.same h, rfl⟩
 | .list a xs, y, h => by
  simp only [D.le] at h
  obtain ⟨ys, rfl, h⟩ := h
  exact ⟨by simp only [D.sz], rfl⟩
 | .int .., y, h | .bool .., y, h | .str .., y, h | .nili, y, h | .nilp, y, h | .nilf, y, h | .nilm, y, h | .ref .., y, h | .iface .., y, h | .fn .., y, h => by
  simp only [D.le] at h; subst h; exact ⟨rfl, rfl⟩
theorem D.les.same : ∀ {xs ys : List D}, D.les xs ys → D.szs ys = D.szs xs
 | [], ys, h => by simp only [D.les] at h; subst h; rfl
 | x :: r, ys, h => by
  simp only [D.les] at h
  obtain ⟨y, s, rfl, h1, h2⟩ := h
  simp only [D.szs, h1.same.1, h2.same]
end
theorem D.les.length : ∀ {xs ys : List D}, D.les xs ys → ys.length = xs.length
 | [], ys, h => by simp only [D.les] at h; subst h; rfl
 | x :: r, ys, h => by
  simp only [D.les] at h
  obtain ⟨y, s, rfl, h1, h2⟩ := h
  simp [D.les.length h2]
theorem D.les.szAll : ∀ {xs ys : List D} {n : Nat}, D.les xs ys → (∀ x ∈ xs, x.sz = n) → ∀ y ∈ ys, y.sz = n
 | [], ys, n, h, _ => by simp only [D.les] at h; subst h; simp
 | x :: r, ys, n, h, hx => by
  simp only [D.les] at h
  obtain ⟨y, s, rfl, h1, h2⟩ := h
  intro z hz
  rcases List.mem_cons.1 hz with rfl | hz
  ·rw [h1.same.1]; exact hx x (by simp)
  ·exact D.les.szAll h2 (fun u hu => hx u (by simp [hu])) z hz
section
variable {w : World} {ow : Nat → Prop}
mutual
theorem D.le.rep : ∀ {x y : D} {cs : List Value}, D.le x y → x.rep w ow cs → y.rep w ow cs
 | .nils, y, cs, h, hr => by
  simp only [D.le] at h
  rcases h with rfl | ⟨sz, rfl⟩
  ·exact hr
  ·simp only [D.rep] at hr ⊢; exact .inl ⟨trivial, hr⟩
 | .agg xs, y, cs, h, hr => by
  simp only [D.le] at h
  obtain ⟨ys, rfl, h⟩ := h
  simp only [D.rep] at hr ⊢
  exact D.les.rep h hr
 | .list a xs, y, cs, h, hr => by
  simp only [D.le] at h
  obtain ⟨ys, rfl, h⟩ := h
  simp only [D.rep] at hr ⊢
  have hl := h.length
  rcases hr with ⟨rfl, hr⟩ | ⟨ad, cap, vs, h1, h2, h3, h4, h5⟩
  ·refine .inl ⟨?_, hr⟩
   simpa using hl
  ·exact .inr ⟨ad, cap, vs, by rw [hl]; exact h1, by rw [hl]; exact h2, h3, D.les.rep h h4, h.szAll h5⟩
 | .int .., y, cs, h, hr | .bool .., y, cs, h, hr | .str .., y, cs, h, hr | .nili, y, cs, h, hr | .nilp, y, cs, h, hr | .nilf, y, cs, h, hr | .nilm, y, cs, h, hr | .ref .., y, cs, h, hr | .iface .., y, cs, h, hr | .fn .., y, cs, h, hr => by
  simp only [D.le] at h; subst h; exact hr
theorem D.les.rep : ∀ {xs ys : List D} {cs : List Value}, D.les xs ys → D.repL w ow xs cs → D.repL w ow ys cs
 | [], ys, cs, h, hr => by simp only [D.les] at h; subst h; exact hr
 | x :: r, ys, cs, h, hr => by
  simp only [D.les] at h
  obtain ⟨y, s, rfl, h1, h2⟩ := h
  simp only [D.repL] at hr ⊢
  obtain ⟨c1, c2, e, r1, r2⟩ := hr
  exact ⟨c1, c2, e, D.le.rep h1 r1, D.les.rep h2 r2⟩
end
end
mutual
theorem D.le.refl : ∀ x : D, D.le x x
 | .nils => by simp [D.le]
 | .agg xs => by simp only [D.le]; exact ⟨_, rfl, D.les.refl xs⟩
 | .list a xs => by simp only [D.le]; exact ⟨_, rfl, D.les.refl xs⟩
 | .int .. | .bool .. | .str .. | .nili | .nilp | .nilf | .nilm | .ref .. | .iface .. | .fn .. => by simp only [D.le]
theorem D.les.refl : ∀ xs : List D, D.les xs xs
 | [] => by simp only [D.les]
 | x :: r => by simp only [D.les]; exact ⟨_, _, rfl, D.le.refl x, D.les.refl r⟩
end
theorem D.le.nil (sz : Nat) : D.le .nils (.list sz []) := by simp [D.le]
theorem D.le.agg {xs ys : List D} (h : D.les xs ys) : D.le (.agg xs) (.agg ys) := by simp only [D.le]; exact ⟨_, rfl, h⟩
theorem D.le.list {sz : Nat} {xs ys : List D} (h : D.les xs ys) : D.le (.list sz xs) (.list sz ys) := by simp only [D.le]; exact ⟨_, rfl, h⟩
theorem D.les.nil : D.les [] [] := by simp only [D.les]
theorem D.les.cons {x y : D} {r s : List D} (h : D.le x y) (h' : D.les r s) : D.les (x :: r) (y :: s) := by simp only [D.les]; exact ⟨_, _, rfl, h, h'⟩
theorem D.les.map {α : Type} {f g : α → D} : ∀ {l : List α}, (∀ x ∈ l, D.le (f x) (g x)) → D.les (l.map f) (l.map g)
 | [], _ => D.les.nil
 | x :: r, h => D.les.cons (h x (by simp)) (D.les.map fun y hy => h y (by simp [hy]))
theorem Xq2 {w : World} {ρ : Env} : ∀ {xs ys : List D} {us : List Value}, D.les xs ys → V.reps w ρ (xs.map .d) us → V.reps w ρ (ys.map .d) us
 | [], ys, us, h, hr => by simp only [D.les] at h; subst h; exact hr
 | x :: r, ys, us, h, hr => by
  simp only [D.les] at h
  obtain ⟨y, s, rfl, h1, h2⟩ := h
  simp only [List.map_cons] at hr ⊢
  cases us with
  | nil => simp [V.reps] at hr
  | cons u us =>
   simp only [V.reps] at hr ⊢
   obtain ⟨u1, us1, e, hu, hus⟩ := hr
   cases e
   refine ⟨_, _, rfl, ?_, Xq2 h2 hus⟩
   rcases Q3.1 hu with ⟨p, ds, q, hd⟩ | ⟨p, hd⟩
   ·exact Q3.2 (.inl ⟨by rw [h1.same.2]; exact p, ds, q, h1.rep hd⟩)
   ·exact Q3.2 (.inr ⟨by rw [h1.same.2]; exact p, h1.rep hd⟩)
theorem PCall.le {P : Prg} {f : Nat} {ob : Objs} {xs ys : List D} {K : V → Prop} (h : D.les xs ys) (hc : PCall P f (ys.map .d) ob K) : PCall P f (xs.map .d) ob K :=
 ⟨fun w ρ args ho hg hr => hc.run w ρ args ho hg (Xq2 h hr)⟩
end Go.Ab
/- Plain functions of the lexer: classes of bytes, names, numbers, tokens. No program. -/
namespace Go.Lx
open Go Go.Ab

structure Tok where
 kind : Int
 text : List UInt8
 n : Int
 at_ : Int
 deriving DecidableEq, Inhabited

def Tok.enc (t : Tok) : D := .agg [.int .i64 t.kind, .str t.text, .int .i64 t.n, .int .i64 t.at_]
def toks (l : List Tok) : D := .list 4 (l.map Tok.enc)

def Za (c : Int) : Bool := decide (97 ≤ c ∧ c ≤ 122 ∨ 65 ≤ c ∧ c ≤ 90)
def Uc (c : Int) : Bool := decide (48 ≤ c ∧ c ≤ 57)
def Xc5 (c : Int) : Bool := decide (c = 32 ∨ c = 9 ∨ c = 10 ∨ c = 13)
def Xgk (c : Int) : Bool := Za c || Uc c || decide (c = 95)
def signs : List UInt8 := [123, 125, 40, 41, 59, 44, 61, 35, 47, 60, 33, 45, 46, 58, 43]
def signI (c : Int) : Bool := signs.any fun b => decide ((b.toNat : Int) = c)

def nameB (s : List UInt8) : Bool := decide (1 ≤ s.length ∧ s.length ≤ 32) && Za (s.getD 0 0).toNat && s.all fun c => Xgk c.toNat

theorem Xn1 {s : List UInt8} {p : UInt8 → Bool} : s.all p = true ↔ ∀ i, i < s.length → p (s.getD i 0) = true := by
 rw [List.all_eq_true]
 constructor
 ·intro h i hi; simp [hi]; exact h _ (List.getElem_mem hi)
 ·intro h x hx
  obtain ⟨i, hi, rfl⟩ := List.getElem_of_mem hx
  have := h i hi
  simpa [hi] using this
end Go.Lx
/- Sources, tables and questions as they are held in memory: plain structures and what they read as. No program. -/
namespace Go.Sx
open Go Go.Ab Go.Lx
abbrev B := List UInt8
abbrev iD (n : Int) : D := .int .i64 n
def Xg (l : List B) : D := .list 1 (l.map .str)
structure RTerm where
 name : B
 path : B
 var : Int
 field : Int
 n : Int
structure RFrom where
 name : B
 kind : B
 schema : Int
 of_ : RTerm
structure RAtom where
 op : Int
 a : RTerm
 b : RTerm
structure RSet where
 path : B
 field : Int
 term : RTerm
structure RRule where
 head : B
 schema : Int
 froms : List RFrom
 wheres : List RAtom
 sets : List RSet
structure RMove where
 to_ : B
 from_ : B
 b : Int
 a : Int
 shift : Int
structure RConvert where
 from_ : B
 to_ : B
 a : Int
 b : Int
 moves : List RMove
structure RRef where
 name : B
 path : B
 schema : Int
 field : Int
structure RPurpose where
 name : B
 may : List RRef
 most : Int
structure RUnit where
 name : B
 of_ : B
 factor : Int
 base : Int
 scale : Int
structure RType where
 kind : Int
 lo : Int
 hi : Int
 of_ : B
 unit : Int
 names : List B
structure RField where
 name : B
 type : RType
 w0 : Int
 w1 : Int
 w2 : Int
 w3 : Int
structure RDepend where
 names : List B
 name : B
 from_ : List Int
 to_ : Int
structure RSchema where
 name : B
 by_ : B
 issuer : Int
 version : Int
 fields : List RField
 depends : List RDepend
structure RSrc where
 issuers : List B
 units : List RUnit
 schemas : List RSchema
 rules : List RRule
 converts : List RConvert
 purposes : List RPurpose
def Xdu (l : List Int) : D := .list 1 (l.map iD)
def RTerm.enc (t : RTerm) : D := .agg [.str t.name, .str t.path, iD t.var, iD t.field, iD t.n]
def RFrom.enc (f : RFrom) : D := .agg [.str f.name, .str f.kind, iD f.schema, f.of_.enc]
def RAtom.enc (a : RAtom) : D := .agg [iD a.op, a.a.enc, a.b.enc]
def RSet.enc (s : RSet) : D := .agg [.str s.path, iD s.field, s.term.enc]
def RRule.enc (r : RRule) : D := .agg [.str r.head, iD r.schema, .list 8 (r.froms.map RFrom.enc), .list 11 (r.wheres.map RAtom.enc), .list 7 (r.sets.map RSet.enc)]
def RMove.enc (m : RMove) : D := .agg [.str m.to_, .str m.from_, iD m.b, iD m.a, iD m.shift]
def RConvert.enc (c : RConvert) : D := .agg [.str c.from_, .str c.to_, iD c.a, iD c.b, .list 5 (c.moves.map RMove.enc)]
def RRef.enc (r : RRef) : D := .agg [.str r.name, .str r.path, iD r.schema, iD r.field]
def RPurpose.enc (p : RPurpose) : D := .agg [.str p.name, .list 4 (p.may.map RRef.enc), iD p.most]
def RUnit.enc (u : RUnit) : D := .agg [.str u.name, .str u.of_, iD u.factor, iD u.base, iD u.scale]
def RType.enc (t : RType) : D := .agg [iD t.kind, iD t.lo, iD t.hi, .str t.of_, iD t.unit, Xg t.names]
def RField.enc (f : RField) : D := .agg [.str f.name, f.type.enc, .agg [iD f.w0, iD f.w1, iD f.w2, iD f.w3]]
def RDepend.enc (d : RDepend) : D := .agg [Xg d.names, .str d.name, Xdu d.from_, iD d.to_]
def RSchema.enc (s : RSchema) : D := .agg [.str s.name, .str s.by_, iD s.issuer, iD s.version, .list 11 (s.fields.map RField.enc), .list 4 (s.depends.map RDepend.enc)]
def RSrc.enc (s : RSrc) : D := .agg [Xg s.issuers, .list 5 (s.units.map RUnit.enc), .list 6 (s.schemas.map RSchema.enc), .list 5 (s.rules.map RRule.enc), .list 5 (s.converts.map RConvert.enc), .list 3 (s.purposes.map RPurpose.enc)]

structure RRule.small (r : RRule) : Prop where
 froms : r.froms.length ≤ 9223372036854775807
 wheres : r.wheres.length ≤ 9223372036854775807
 sets : r.sets.length ≤ 9223372036854775807
structure RDepend.small (r : RDepend) : Prop where
 names : r.names.length ≤ 9223372036854775807
 from_ : r.from_.length ≤ 9223372036854775807
structure RSchema.small (r : RSchema) : Prop where
 fields : r.fields.length ≤ 9223372036854775807
 depends : r.depends.length ≤ 9223372036854775807
 names : ∀ f ∈ r.fields, f.type.names.length ≤ 9223372036854775807
 deps : ∀ d ∈ r.depends, d.small
structure RSrc.small (s : RSrc) : Prop where
 issuers : s.issuers.length ≤ 9223372036854775807
 units : s.units.length ≤ 9223372036854775807
 schemas : s.schemas.length ≤ 9223372036854775807
 rules : s.rules.length ≤ 9223372036854775807
 converts : s.converts.length ≤ 9223372036854775807
 purposes : s.purposes.length ≤ 9223372036854775807
 schema : ∀ x ∈ s.schemas, x.small
 rule : ∀ x ∈ s.rules, x.small
 moves : ∀ x ∈ s.converts, x.moves.length ≤ 9223372036854775807
 may : ∀ x ∈ s.purposes, x.may.length ≤ 9223372036854775807
structure RTab where
 src : RSrc
 order : List Int
def RTab.enc (t : RTab) : D := .agg [t.src.enc, Xdu t.order]
structure RVar where
 name : B
 kind : B
 schema : Int
 other : Bool
def RVar.enc (v : RVar) : D := .agg [.str v.name, .str v.kind, iD v.schema, .bool v.other]
inductive RForm where
 | mk (op n : Int) (kids : List RForm) (atom : RAtom)
def RForm.op : RForm → Int | .mk o _ _ _ => o
def RForm.n : RForm → Int | .mk _ n _ _ => n
def RForm.kids : RForm → List RForm | .mk _ _ k _ => k
def RForm.atom : RForm → RAtom | .mk _ _ _ a => a
mutual
def RForm.enc : RForm → D
 | .mk o n k a => .agg [iD o, iD n, .list 14 (RForm.encs k), a.enc]
def RForm.encs : List RForm → List D
 | [] => []
 | f :: r => f.enc :: RForm.encs r
end
theorem RForm.encs_eq : ∀ l : List RForm, RForm.encs l = l.map RForm.enc
 | [] => rfl
 | f :: r => by rw [RForm.encs, RForm.encs_eq r]; rfl
theorem RForm.enc_eq (f : RForm) : f.enc = .agg [iD f.op, iD f.n, .list 14 (f.kids.map RForm.enc), f.atom.enc] := by
 cases f; rw [RForm.enc, RForm.encs_eq]; rfl
mutual
def RForm.small : RForm → Prop
 | .mk _ _ k _ => k.length ≤ 9223372036854775807 ∧ RForm.smalls k
def RForm.smalls : List RForm → Prop
 | [] => True
 | f :: r => f.small ∧ RForm.smalls r
end
theorem RForm.smalls_mem : ∀ {l : List RForm}, RForm.smalls l → ∀ f ∈ l, f.small
 | [], _, f, h => by cases h
 | g :: r, h, f, hf => by
  rw [RForm.smalls] at h
  rcases List.mem_cons.mp hf with rfl | hf
  ·exact h.1
  ·exact RForm.smalls_mem h.2 f hf
theorem RForm.small_eq {f : RForm} (h : f.small) : f.kids.length ≤ 9223372036854775807 ∧ ∀ k ∈ f.kids, k.small := by
 cases f; rw [RForm.small] at h; exact ⟨h.1, RForm.smalls_mem h.2⟩
structure RQ where
 name : B
 purpose : Int
 vars : List RVar
 form : RForm
def RQ.enc (q : RQ) : D := .agg [.str q.name, iD q.purpose, .list 4 (q.vars.map RVar.enc), q.form.enc]
structure RQ.small (q : RQ) : Prop where
 vars : q.vars.length ≤ 9223372036854775807
 form : q.form.small
end Go.Sx
/- Functions that defer a call, and deferred functions that recover. Over any program; no condition. -/
namespace Go.Ab
open Go


structure DCall (P : Prg) (f : Nat) (vs : List V) (ob : Objs) (rv : Option V) (K : Objs → Prop) : Prop where
 ret : rv = none → ∀ w ρ args, OM w ρ ob → ρ.gl = P.g → V.reps w ρ vs args → CallsD P.p f args.toArray .returning w (fun e u w' => (∃ v, e = .returned v) ∧ u = .returning ∧ ∃ ob' ρ', K ob' ∧ OM w' ρ' ob' ∧ Tr w ρ w' ρ')
 pan : ∀ v, rv = some v → ∀ w ρ args x, OM w ρ ob → ρ.gl = P.g → V.reps w ρ vs args → v.rep w ρ x → (∃ t y, x = .iface t y) → CallsD P.p f args.toArray (.panicking [{ v := x, recovered := false }]) w
  (fun e u w' => (∃ v, e = .returned v) ∧ u = .panicking [{ v := x, recovered := true }] ∧ ∃ ob' ρ', K ob' ∧ OM w' ρ' ob' ∧ Tr w ρ w' ρ')

def X7i : Op → Bool
 | .call { callee := .builtin .recover, .. } => true
 | _ => false
def Xlv (P : Program) (f n k : Nat) (its : List It) (s : S) : Bool := match P.funcs[f]? with
 | some fn => match fn.body with
  | some (.seq (.region _ ops false) code) => match ops.toList with
   | o :: os => decide (n ≤ fn.ntmps) && decide (k < fn.ntmps) && X7i o.op && o.dst == some k && o.guard.isNone && Zm P fn.ntmps ops os its && S.chk P fn.ntmps code s && fn.results.isEmpty
   | [] => false
  | _ => false
 | none => false

def dQ (n : Nat) (K : Objs → Prop) : Z5
 | .normal, _, ob => X0 n K [] ob
 | .ret, _, ob => X0 n K [] ob
 | .panic _, _, _ => False
 | .exit _, _, _ => False

theorem Uj {P : Prg} {c : Ctx} (hg : P.g = c.g) {xo : Nat → Prop} {ops : Array Oper} {cs : List Frame} {Q : Exit → Act → List Frame → World → Prop} {K : Xb → Objs → Prop}
  (hK : ∀ sl ob ρ a w, K sl ob → Mod c xo ρ sl ob a w → Q .normal a cs w) :
  ∀ (l : List Oper) (j : Nat) (its : List It) (sl : Xb) (ob : Objs) (ρ : Env) (a : Act) (w : World), ops.toList.drop j = l → Zm P.p c.N ops l its = true → rwp P K (fun _ _ _ => False) its sl ob → Mod c xo ρ sl ob a w → wpOpsS P.p ops Q (List.range' j l.length) a cs w
 | [], j, [], sl, ob, ρ, a, w, _, _, h, m => by simp only [List.length_nil, List.range'_zero, wpOpsS]; exact hK sl ob ρ a w h m
 | o :: r, j, i :: s, sl, ob, ρ, a, w, hd, hc, h, m => by
  simp only [Zm, Bool.and_eq_true] at hc
  obtain ⟨h1, h2⟩ := hc
  have hj : ops[j]? = some o := by
   have := congrArg (·[0]?) hd
   simpa using this
  have hd' : ops.toList.drop (j + 1) = r := by
   have := congrArg (List.drop 1) hd
   simpa [List.drop_drop] using this
  have step : ∀ (d : Option Nat) (x : I) (sl : Xb), SM w ρ sl a → Qn c.N o.dst d = true → x.chk P.p o.op = true → x.wp P sl ob (fun v ob' => rwp P K (fun _ _ _ => False) s (put sl d v) ob') (fun v ob' => False) →
    o.wp P.p a w (fun a' w' => wpOpsS P.p ops Q (List.range' (j + 1) r.length) a' cs w') (fun e a' w' => Q e a' cs w') := by
   intro d x sl hs hd hx hw
   refine I.sound (m.gl.trans hg.symm) hs m.om hx hw o rfl _ _ (fun v y ob' w' ρ' hk hr ho t => ?_) (fun u y ob' w' ρ' hk hr ho t => hk.elim)
   obtain ⟨g1, g2, g3⟩ := Xh hd m.size (hs.tr t) hr
   exact Uj hg hK r (j + 1) s _ ob' ρ' _ w' hd' h2 hk ⟨m.base.tr t, ho, g1, g2, g3.trans m.df, t.xo.trans m.xo, t.gl.trans m.gl⟩
  have fin : o.wp P.p a w (fun a' w' => wpOpsS P.p ops Q (List.range' (j + 1) r.length) a' cs w') (fun e a' w' => Q e a' cs w') → Region.wanted o (yielded ops a.tmps) = true → wpOpsS P.p ops Q (List.range' j (r.length + 1)) a cs w := by
   intro hw hwant
   rw [List.range'_succ]
   simp only [wpOpsS, hj, hwant, if_true]
   unfold Oper.wp at hw
   split
   ·rename_i w' hrun
    rw [hrun] at hw
    exact hw.elim
   ·exact hw
  simp only [List.length_cons]
  cases i with
  | op d x =>
   simp only [It.chk, Bool.and_eq_true, Option.isNone_iff_eq_none] at h1
   simp only [rwp] at h
   exact fin (step d x sl m.sm h1.1.1 h1.2 h) (by simp [Region.wanted, h1.1.2])
  | gop g want d x =>
   simp only [It.chk, Bool.and_eq_true] at h1
   simp only [rwp] at h
   rcases Y9 (ops := ops) m.sm h1.1.2 h with ⟨hw, sl', hs, h⟩ | ⟨hw, sl', hs, h⟩
   ·exact fin (step d x sl' hs h1.1.1 h1.2 h) hw
   ·rw [List.range'_succ]
    simp only [wpOpsS, hj, hw, Bool.false_eq_true, if_false]
    obtain ⟨g1, g2, g3⟩ := Xh h1.1.1 m.size hs (Y3.2 rfl)
    exact Uj hg hK r (j + 1) s _ ob ρ _ w hd' h2 h ⟨m.base, m.om, g1, g2, g3.trans m.df, m.xo, m.gl⟩
 | [], _, _ :: _, _, _, _, _, _, _, hc, _, _ => by simp [Zm] at hc
 | _ :: _, _, [], _, _, _, _, _, _, hc, _, _ => by simp [Zm] at hc

theorem Xcb {P : Prg} (hm : P.p.follows .mixedOrders = true) {f k : Nat} {its : List It} {keep : List Nat} {s : S} {vs : List V} {ob : Objs} {rv : Option V} {K : Objs → Prop} (hc : Xlv P.p f vs.length k its s = true)
  (h : rwp P (fun sl ob' => cwp P s (dQ (fresh ob) K) (Xd sl keep) ob') (fun _ _ _ => False) its ((k, rv.getD (.d .nili)) :: Qe 0 vs) ob) : DCall P f vs ob rv K := by
 unfold Xlv at hc
 split at hc
 ·rename_i fn hf
  split at hc
  ·rename_i id ops code hb
   split at hc
   ·rename_i o os hops
    simp only [Bool.and_eq_true, decide_eq_true_eq, Option.isNone_iff_eq_none, beq_iff_eq] at hc
    obtain ⟨⟨⟨⟨⟨⟨⟨hn, hk⟩, hrec⟩, hdst⟩, hgd⟩, hits⟩, hs⟩, hres⟩ := hc
    have hemp : fn.results = #[] := by simpa using hres
    have hres' : ∀ (t : Array Value) (w : World), (results fn t).run P.p w = .ok (.tuple #[]) w := fun t w => by simp [results, hemp]
    have hop : ∃ args ts, o.op = .call { callee := .builtin .recover, args := args, argTypes := ts } := by
     revert hrec; generalize o.op = op; intro hrec
     unfold X7i at hrec
     split at hrec
     ·exact ⟨_, _, rfl⟩
     ·simp at hrec
    obtain ⟨rargs, rts, hop⟩ := hop
    have hrun : ∀ (a : Act) (w : World), (execOp a.eval o).run P.p w = .ok .recover w := fun a w => by
     simp [execOp, hop, resolve, invoke, builtin]
    have ho0 : ops[0]? = some o := by
     have := congrArg (·[0]?) hops; simpa using this
    have hsize : ops.size = os.length + 1 := by
     have := congrArg List.length hops; simpa using this
    have hdrop : ops.toList.drop 1 = os := by rw [hops]; rfl
    have key : ∀ w ρ args, OM w ρ ob → ρ.gl = P.g → V.reps w ρ vs args → ∀ (u u' : FrameMode) (x : Value), (rv.getD (.d .nili)).rep w ρ x →
      (∀ (c0 : Frame) (cs : List Frame), c0.mode = u → (recoverD (c0 :: cs) = some (x, { c0 with mode := u' } :: cs)) ∨ (recoverD (c0 :: cs) = none ∧ x = .nilIface ∧ u' = u)) →
      CallsD P.p f args.toArray u w (fun e v w' => (∃ v, e = .returned v) ∧ v = u' ∧ ∃ ob' ρ', K ob' ∧ OM w' ρ' ob' ∧ Tr w ρ w' ρ') := by
     intro w ρ args hO hg hr u u' x hx hrecD
     refine callsD_of_wpS hf hb fun c0 cs hc0 => ?_
     let c : Ctx := ⟨w, Xk5 ρ, fn.ntmps, [], P.g, ρ.m, []⟩
     have hlen : args.length = vs.length := by simpa using Ze hr
     have m : Mod c ρ.xo ρ (Qe 0 vs) ob { tmps := args.toArray ++ Array.replicate (fn.ntmps - args.toArray.size) undef, defers := [] } w := by
      refine ⟨⟨Nat.le_refl _, fun _ _ _ => rfl, fun b h => .inr h, rfl, rfl, rfl, fun id o h => ⟨o, h, .refl o⟩, (fun p hp => by cases hp)⟩, hO, ?_, ?_, rfl, rfl, hg⟩
      ·refine Ul hr 0 _ (fun i hi => ?_)
       simp [Array.getElem?_append, hi]
      ·simp [c]; omega
     have hout : ∀ (e : Exit) (a' : Act) (w' : World) cs', cs' = { c0 with mode := u' } :: cs → lift c ρ.xo (dQ (fresh ob) K) e a' w' → bodyPostS P.p fn c0 cs (fun e v w' => (∃ v, e = .returned v) ∧ v = u' ∧ ∃ ob' ρ', K ob' ∧ OM w' ρ' ob' ∧ Tr w ρ w' ρ') e a' cs' w' := by
      rintro e a' w' cs' rfl ⟨ae, sl', ob', ρ', hq, he, m'⟩
      have old : ∀ kp id o, ρ.m id = some o → young (fresh ob) kp id = false := fun kp id o h0 => by
       obtain ⟨x, hx⟩ := hO.dom id o h0
       have hlt : ¬ fresh ob ≤ id := fun hle => by rw [X1 _ _ hle] at hx; cases hx
       simp [young, hlt]
      have tr : ∀ kp, Tr w ρ w' (ρ'.del (young (fresh ob) kp)) := fun kp => by
       have b2 := m'.base
       refine ⟨b2.size, fun b h1 h2 => b2.keep b h2 h1, fun b h1 => (b2.owns b (Vt h1)).symm, ?_, ?_, fun id o h1 => ?_, b2.tape, b2.os, b2.out⟩
       ·show ρ'.xo = ρ.xo; rw [m'.xo]
       ·show ρ'.gl = ρ.gl; rw [m'.gl, hg]
       ·obtain ⟨o', h3, h4⟩ := b2.same id o h1
        exact ⟨o', by simp only [Env.del, old kp id o h1]; exact h3, h4⟩
      have hfin : X0 (fresh ob) K [] ob' → a'.defers = [] ∧ ∃ u'', { c0 with mode := u' } :: cs = { c0 with mode := u'' } :: cs ∧ ∃ v, (results fn a'.tmps).run P.p w' = .ok v w' ∧ ((∃ v', Ending.returned v = .returned v') ∧ u'' = u' ∧ ∃ ob' ρ', K ob' ∧ OM w' ρ' ob' ∧ Tr w ρ w' ρ') := by
       rintro ⟨kp, _, k2, k3⟩
       exact ⟨m'.df, u', rfl, _, hres' _ _, ⟨_, rfl⟩, rfl, _, _, k3, m'.om.del k2, tr kp⟩
      cases ae with
      | normal => cases e <;> simp only [exM] at he; exact hfin hq
      | ret => cases e <;> simp only [exM] at he; exact hfin hq
      | exit n => exact hq.elim
      | panic v => exact hq.elim
     refine wpS_seq (wpS_region ?_)
     have hrange : List.range ops.size = 0 :: List.range' 1 os.length := by
      rw [List.range_eq_range', hsize, List.range'_succ]
     rw [hrange]
     have hwant : ∀ a : Act, Region.wanted o (yielded ops a.tmps) = true := fun a => by simp [Region.wanted, hgd]
     have hput : ∀ cs' : List Frame, cs' = { c0 with mode := u' } :: cs → wpOpsS P.p ops (Exit.thenS (code.wpS P.p (bodyPostS P.p fn c0 cs (fun e v w' => (∃ v, e = .returned v) ∧ v = u' ∧ ∃ ob' ρ', K ob' ∧ OM w' ρ' ob' ∧ Tr w ρ w' ρ'))) (bodyPostS P.p fn c0 cs (fun e v w' => (∃ v, e = .returned v) ∧ v = u' ∧ ∃ ob' ρ', K ob' ∧ OM w' ρ' ob' ∧ Tr w ρ w' ρ'))) (List.range' 1 os.length)
       (({ tmps := args.toArray ++ Array.replicate (fn.ntmps - args.toArray.size) undef, defers := [] } : Act).put o.dst x) cs' w := by
      intro cs' hcs'
      obtain ⟨g1, g2, g3⟩ := Xh (d := some k) (o := o.dst) (v := x) (N := fn.ntmps) (by simp [Qn, hdst, hk]) m.size m.sm hx
      refine Uj (c := c) (xo := ρ.xo) rfl (fun sl ob1 ρ1 a1 w1 hk1 m1 => ?_) os 1 its _ ob ρ _ w hdrop hits h ⟨m.base, m.om, g1, g2, g3, m.xo, m.gl⟩
      simp only [Exit.thenS]
      exact wpS_of_wp (wp_mono (Ya hm rfl code s _ _ _ ρ1 a1 w1 hs hk1 ⟨m1.base, m1.om, m1.sm.keep keep, m1.size, m1.df, m1.xo, m1.gl⟩) (fun e a' w' hl => hout e a' w' cs' hcs' hl))
     have hwant0 : Region.wanted o (yielded ops (args.toArray ++ Array.replicate (fn.ntmps - args.toArray.size) undef)) = true := hwant { tmps := args.toArray ++ Array.replicate (fn.ntmps - args.toArray.size) undef, defers := [] }
     simp only [wpOpsS, ho0, hwant0, if_true, hrun]
     rcases hrecD c0 cs hc0 with hr1 | ⟨hr1, hx1, hu1⟩
     ·rw [hr1]; exact hput _ rfl
     ·rw [hr1]
      subst hx1
      refine hput _ ?_
      subst hu1; cases c0; simp only at hc0; subst hc0; rfl
    refine ⟨fun he w ρ args hO hg hr => ?_, fun v he w ρ args x hO hg hr hx hix => ?_⟩
    ·subst he
     exact key w ρ args hO hg hr .returning .returning .nilIface (Xad.2 rfl) (fun c0 cs hc0 => .inr ⟨by simp [recoverD, hc0], rfl, rfl⟩)
    ·subst he
     exact key w ρ args hO hg hr _ _ x hx (fun c0 cs hc0 => .inl (by simp [recoverD, hc0]))
   ·simp at hc
  ·simp at hc
 ·simp at hc


inductive FSt where
 | pre (s : S) (r : FSt)
 | dfr (its : List It) (keep : List Nat) (k : Nat) (s : S)

def X4f (k : Nat) : Op → Bool
 | .defer { callee := .value (.tmp j), args := args, .. } => j == k && args.isEmpty
 | _ => false
def FSt.chk (P : Program) (N : Nat) : Code → FSt → Bool
 | .seq a b, .pre s r => S.chk P N a s && FSt.chk P N b r
 | .seq (.region _ ops false) b, .dfr its _ k s => match ops.toList.reverse with
  | o :: os => X4f k o.op && o.dst.isNone && o.guard.isNone && Zm P N ops os.reverse its && S.chk P N b s
  | [] => false
 | _, _ => false

def Xdl (P : Prg) (g : Nat) (cl : List V) (rs : List RV) (K : V → Prop) : Z5
 | .normal, sl, ob => DCall P g cl ob none fun ob' => Wg sl ob' rs fun vs => Z6 (fun l _ => K (W5 (l.map .d))) (V.givs ob' vs)
 | .ret, sl, ob => DCall P g cl ob none fun ob' => Wg sl ob' rs fun vs => Z6 (fun l _ => K (W5 (l.map .d))) (V.givs ob' vs)
 | .panic v, sl, ob => (∃ t y, v = .iface t y ∨ ∃ z, v = .d (.iface t z)) ∧ DCall P g cl ob (some v) fun ob' => Wg sl ob' rs fun vs => Z6 (fun l _ => K (W5 (l.map .d))) (V.givs ob' vs)
 | .exit _, _, _ => False
def X4e (P : Prg) (s : S) (rs : List RV) (K : V → Prop) (sl : Xb) (ob : Objs) : V → Prop
 | .fn g fi ca => Xi P.p g = true ∧ cwp P s (Xdl P g (fi ++ ca) rs K) sl ob
 | _ => False
def fwp (P : Prg) (rs : List RV) (K : V → Prop) : FSt → Xb → Objs → Prop
 | .pre s r, sl, ob => cwp P s (Zt (fwp P rs K r) (Xa9 rs K)) sl ob
 | .dfr its keep k s, sl, ob => rwp P (fun sl ob => X4e P s rs K (Xd sl keep) ob (look (Xd sl keep) k)) (fun _ _ _ => False) its sl ob

def Xl5 (P : Program) (f n : Nat) (s : FSt) (rs : List RV) : Bool := match P.funcs[f]? with
 | some fn => match fn.body with
  | some code => decide (n ≤ fn.ntmps) && FSt.chk P fn.ntmps code s && Ub P fn.results.toList rs
  | none => false
 | none => false

theorem Xaz {P : Prg} {c : Ctx} (hg : P.g = c.g) {xo : Nat → Prop} {ops : Array Oper} {Q : Exit → Act → World → Prop} {K : Xb → Objs → Prop} {l' : List Oper}
  (hK : ∀ sl ob ρ a w, K sl ob → Mod c xo ρ sl ob a w → wpList P.p ops Q l' a w) :
  ∀ (l : List Oper) (its : List It) (sl : Xb) (ob : Objs) (ρ : Env) (a : Act) (w : World), Zm P.p c.N ops l its = true → rwp P K (fun _ _ _ => False) its sl ob → Mod c xo ρ sl ob a w → wpList P.p ops Q (l ++ l') a w
 | [], [], sl, ob, ρ, a, w, _, h, m => by simp only [List.nil_append]; exact hK sl ob ρ a w h m
 | o :: r, i :: s, sl, ob, ρ, a, w, hc, h, m => by
  simp only [Zm, Bool.and_eq_true] at hc
  obtain ⟨h1, h2⟩ := hc
  have step : ∀ (d : Option Nat) (x : I) (sl : Xb), SM w ρ sl a → Qn c.N o.dst d = true → x.chk P.p o.op = true → x.wp P sl ob (fun v ob' => rwp P K (fun _ _ _ => False) s (put sl d v) ob') (fun v ob' => False) → o.wp P.p a w (wpList P.p ops Q (r ++ l')) Q := by
   intro d x sl hs hd hx hw
   refine I.sound (m.gl.trans hg.symm) hs m.om hx hw o rfl _ _ (fun v y ob' w' ρ' hk hr ho t => ?_) (fun u y ob' w' ρ' hk hr ho t => hk.elim)
   obtain ⟨g1, g2, g3⟩ := Xh hd m.size (hs.tr t) hr
   exact Xaz hg hK r s _ ob' ρ' _ w' h2 hk ⟨m.base.tr t, ho, g1, g2, g3.trans m.df, t.xo.trans m.xo, t.gl.trans m.gl⟩
  simp only [List.cons_append]
  cases i with
  | op d x =>
   simp only [It.chk, Bool.and_eq_true, Option.isNone_iff_eq_none] at h1
   simp only [rwp] at h
   simp only [wpList, Region.wanted, h1.1.2, if_true]
   exact .inl (step d x sl m.sm h1.1.1 h1.2 h)
  | gop g want d x =>
   simp only [It.chk, Bool.and_eq_true] at h1
   simp only [rwp] at h
   simp only [wpList]
   rcases Y9 (ops := ops) m.sm h1.1.2 h with ⟨hw, sl', hs, h⟩ | ⟨hw, sl', hs, h⟩
   ·rw [if_pos hw]
    exact .inl (step d x sl' hs h1.1.1 h1.2 h)
   ·rw [hw]
    simp only [Bool.false_eq_true, if_false]
    obtain ⟨g1, g2, g3⟩ := Xh h1.1.1 m.size hs (Y3.2 rfl)
    exact Xaz hg hK r s _ ob ρ _ w h2 h ⟨m.base, m.om, g1, g2, g3.trans m.df, m.xo, m.gl⟩
 | [], _ :: _, _, _, _, _, _, hc, _, _ => by simp [Zm] at hc
 | _ :: _, [], _, _, _, _, _, hc, _, _ => by simp [Zm] at hc

section
variable {P : Prg} {w0 : World} {ρ0 : Env}
def Xvt (w0 : World) (ρ0 : Env) (K : V → Prop) : Ending → World → Prop := fun e w' => ∃ v u, K v ∧ e = .returned u ∧ v.rep w' ρ0 u ∧ Ext w0 w'
theorem Xka {c : Ctx} (h0 : c.w0 = w0) (hex : ∀ b, ¬ c.ex b) {w' : World} {ρ' : Env} {sl : Xb} {ob : Objs} {a : Act} {fn : Func} {rs : List RV} {K : V → Prop} (hb : Base c w' ρ') (ho : OM w' ρ' ob) (hs : SM w' ρ' sl a) (hx : ρ'.xo = own ρ0)
  (hc : Ub P.p fn.results.toList rs = true) (h : Wg sl ob rs fun vs => Z6 (fun l _ => K (W5 (l.map .d))) (V.givs ob vs)) : ∃ v, (results fn a.tmps).run P.p w' = .ok v w' ∧ Xvt w0 ρ0 K (.returned v) w' := by
 obtain ⟨vs, us, hk, hrep, hrun⟩ := W4 (P := P.p) (fn := fn) hs ho hc h
 cases hgv : V.givs ob vs with
 | none => simp [hgv, Z6] at hk
 | some q =>
  obtain ⟨l, ob2⟩ := q
  simp only [hgv, Z6] at hk
  obtain ⟨ρ2, t2, o2, hr2⟩ := Qq vs us ho hrep hgv
  have mo2 : Xe1 w' (own ρ2) w' (own ρ0) := fun b h1 _ => ⟨rfl, fun h2 => h1 (.inr (by rw [t2.xo, hx]; exact h2))⟩
  have hrep' := Ve mo2 _ _ l rfl hr2
  have hext : Ext w0 w' := by subst h0; exact ⟨hb.size, fun b h => hb.keep b h (hex b), hb.tape, hb.os, hb.out⟩
  exact ⟨Xq3 us, hrun, W5 (l.map .d), Xq3 us, hk, rfl, Qb hrep', hext⟩

theorem Xfs (hm : P.p.follows .mixedOrders = true) {c : Ctx} (hg : P.g = c.g) (h0 : c.w0 = w0) (hex : ∀ b, ¬ c.ex b) (hdf : c.df = []) (hm0 : ∀ id, c.m0 id = none) {fn : Func} {rs : List RV} {K : V → Prop} (hres : Ub P.p fn.results.toList rs = true) :
  ∀ (code : Code) (s : FSt) (sl : Xb) (ob : Objs) (ρ : Env) (a : Act) (w : World), FSt.chk P.p c.N code s = true → fwp P rs K s sl ob → Mod c (own ρ0) ρ sl ob a w → code.wp P.p (bodyPostD P.p fn (Xvt w0 ρ0 K)) a w
 | .seq x y, .pre s r, sl, ob, ρ, a, w, hc, h, m => by
  simp only [FSt.chk, Bool.and_eq_true] at hc
  simp only [fwp] at h
  refine wp_seq (wp_mono (Ya hm hg x s _ sl ob ρ a w hc.1 h m) ?_)
  rintro e a' w' ⟨ae, sl', ob', ρ', hq, he, m'⟩
  cases ae with
  | normal =>
   cases e <;> simp only [exM] at he
   exact Xfs hm hg h0 hex hdf hm0 hres y r sl' ob' ρ' a' w' hc.2 hq m'
  | exit n => exact hq.elim
  | ret =>
   cases e <;> simp only [exM] at he
   show Leaves _ _ _ _ a'.defers .returning w'
   rw [m'.df, hdf]
   exact Xka h0 hex m'.base m'.om m'.sm m'.xo hres hq
  | panic v => exact hq.elim
 | .seq (.region id ops false) y, .dfr its keep k s, sl, ob, ρ, a, w, hc, h, m => by
  simp only [FSt.chk] at hc
  split at hc
  ·rename_i o os hops
   simp only [Bool.and_eq_true, Option.isNone_iff_eq_none] at hc
   obtain ⟨⟨⟨⟨hop, hdst⟩, hgd⟩, hits⟩, hs⟩ := hc
   simp only [fwp] at h
   have hl : ops.toList = os.reverse ++ [o] := by
    have := congrArg List.reverse hops; simpa using this
   refine wp_seq (wp_region_list ?_)
   rw [hl]
   refine Xaz hg (fun sl0 ob1 ρ1 a1 w1 hk m0 => ?_) os.reverse its sl ob ρ a w hits h m
   have m1 : Mod c (own ρ0) ρ1 (Xd sl0 keep) ob1 a1 w1 := ⟨m0.base, m0.om, m0.sm.keep keep, m0.size, m0.df, m0.xo, m0.gl⟩
   generalize Xd sl0 keep = sl1 at hk m1
   unfold X4e at hk
   split at hk
   ·rename_i g fi ca e1
    obtain ⟨hcall, hk⟩ := hk
    have hrep := m1.sm k
    rw [e1] at hrep
    have hrep0 := hrep
    rw [Xbd] at hrep
    obtain ⟨fs, gs, hv, hr1, hr2⟩ := hrep
    obtain ⟨args, ts, hop'⟩ : ∃ args ts, o.op = .defer { callee := .value (.tmp k), args := args, argTypes := ts } ∧ args = #[] := by
     revert hop; generalize o.op = op; intro hop
     unfold X4f at hop
     split at hop
     ·simp only [Bool.and_eq_true, beq_iff_eq] at hop
      obtain ⟨rfl, hop⟩ := hop
      exact ⟨_, _, rfl, by simpa using hop⟩
     ·simp at hop
    obtain ⟨hop', rfl⟩ := hop'
    let d : Deferred := { target := .fn (.func g) gs.toArray, args := fs.toArray ++ #[] }
    have hrun : (execOp a1.eval o).run P.p w1 = .ok (.defer d) w1 := by
     have : a1.eval (.tmp k) = .func (.func g) fs.toArray gs.toArray := hv
     simp [execOp, hop', resolve, this, Deferred.ofValue, d]
    simp only [wpList, Region.wanted, hgd, if_true]
    left
    unfold Oper.wp
    rw [hrun]
    simp only [Oper.upon, hdst, Act.put]
    let c2 : Ctx := ⟨c.w0, c.ex, c.N, [d], c.g, c.m0, [(.fn g fi ca, .func (.func g) fs.toArray gs.toArray)]⟩
    have m2 : Mod c2 (own ρ0) ρ1 sl1 ob1 { a1 with defers := d :: a1.defers } w1 := by
     refine ⟨⟨m1.base.size, m1.base.keep, m1.base.owns, m1.base.tape, m1.base.os, m1.base.out, m1.base.same, fun p hp => ?_⟩, m1.om, m1.sm, m1.size, ?_, m1.xo, m1.gl⟩
     ·simp only [c2, List.mem_singleton] at hp
      subst hp
      rw [hv] at hrep0
      exact hrep0
     ·show d :: a1.defers = [d]; rw [m1.df, hdf]
    show Code.wp _ _ _ _ _
    refine wp_mono (Ya hm (c := c2) hg y s _ _ _ ρ1 _ w1 hs hk m2) ?_
    rintro e a' w' ⟨ae, sl', ob', ρ', hq, he, m'⟩
    have hclo : V.reps w' ρ' (fi ++ ca) (fs ++ gs) := by
     have := m'.base.ext (.fn g fi ca, .func (.func g) fs.toArray gs.toArray) (by simp [c2])
     simp only at this
     rw [Xbd] at this
     obtain ⟨fs', gs', e2, q1, q2⟩ := this
     simp only [Value.func.injEq, true_and] at e2
     obtain ⟨e3, e4⟩ := e2
     have e3 : fs = fs' := by simpa using congrArg Array.toList e3
     have e4 : gs = gs' := by simpa using congrArg Array.toList e4
     subst e3 e4
     exact Zd q1 q2
    have hinv : ∀ w, (invoke d.target d.args).run P.p w = .ok (.enter g (fs ++ gs).toArray) w := fun w => by
     simp only [d, invoke, Zg hcall]
     simp
    have hd : a'.defers = [d] := m'.df
    have after : ∀ (w'' : World) (ob2 : Objs) (ρ2 : Env), (Wg sl' ob2 rs fun vs => Z6 (fun l _ => K (W5 (l.map .d))) (V.givs ob2 vs)) → OM w'' ρ2 ob2 → Tr w' ρ' w'' ρ2 → Leaves P.p fn a'.tmps (Xvt w0 ρ0 K) [] .returning w'' := by
     intro w'' ob2 ρ2 hq o2 t2
     exact Xka (c := c2) h0 hex (m'.base.tr t2) o2 (m'.sm.tr t2) (t2.xo.trans m'.xo) hres hq
    have hgl : ρ'.gl = P.g := m'.gl.trans hg.symm
    have hret : DCall P g (fi ++ ca) ob' none (fun ob' => Wg sl' ob' rs fun vs => Z6 (fun l _ => K (W5 (l.map .d))) (V.givs ob' vs)) → Leaves P.p fn a'.tmps (Xvt w0 ρ0 K) a'.defers .returning w' := by
     intro hq
     rw [hd]
     refine leaves_cons (fv := .func g) (cap := gs.toArray) (dargs := fs.toArray ++ #[]) (by simp) (hinv w') ((hq.ret rfl w' ρ' (fs ++ gs) m'.om hgl hclo).mono ?_)
     rintro e u w'' ⟨⟨v, rfl⟩, rfl, ob2, ρ2, k2, o2, t2⟩
     exact after w'' ob2 ρ2 k2 o2 t2
    cases ae with
    | normal => cases e <;> simp only [exM] at he; exact hret hq
    | ret => cases e <;> simp only [exM] at he; exact hret hq
    | exit n => exact hq.elim
    | panic v =>
     cases e <;> simp only [exM] at he
     obtain ⟨u, rfl, hu⟩ := he
     obtain ⟨⟨t, y, hty⟩, hq⟩ := hq
     have hix : ∃ t y, u = .iface t y := by
      rcases hty with rfl | ⟨z, rfl⟩
      ·rw [Zq (by simp [V.isAgg]) (by simp)] at hu
       simp only [V.repC, List.cons.injEq, and_true] at hu
       obtain ⟨c, hu, _⟩ := hu
       exact ⟨_, _, hu⟩
      ·rw [Qa] at hu
       obtain ⟨c, hu, _⟩ := hu
       exact ⟨_, _, hu⟩
     show Leaves _ _ _ _ a'.defers _ w'
     rw [hd]
     refine leaves_cons (fv := .func g) (cap := gs.toArray) (dargs := fs.toArray ++ #[]) (by simp) (hinv w') ((hq.pan v rfl w' ρ' (fs ++ gs) u m'.om hgl hclo hu hix).mono ?_)
     rintro e u' w'' ⟨⟨v', rfl⟩, rfl, ob2, ρ2, k2, o2, t2⟩
     exact after w'' ob2 ρ2 k2 o2 t2
   ·exact hk.elim
  ·simp at hc
 | .skip, _, _, _, _, _, _, hc, _, _ | .region _ _ _, _, _, _, _, _, _, hc, _, _ | .cond _ _ _, _, _, _, _, _, _, hc, _, _ | .block _ _, _, _, _, _, _, _, hc, _, _ | .loop _, _, _, _, _, _, _, hc, _, _ | .rangeFunc _ _ _ _, _, _, _, _, _, _, hc, _, _ | .exit _, _, _, _, _, _, _, hc, _, _ | .scope _, _, _, _, _, _, _, hc, _, _ | .label _, _, _, _, _, _, _, hc, _, _ | .goto _, _, _, _, _, _, _, hc, _, _ | .ret, _, _, _, _, _, _, hc, _, _ | .refuse _, _, _, _, _, _, _, hc, _, _ => by simp [FSt.chk] at hc
 | .seq (.region _ _ true) _, .dfr _ _ _ _, _, _, _, _, _, hc, _, _ | .seq .skip _, .dfr _ _ _ _, _, _, _, _, _, hc, _, _ | .seq (.seq _ _) _, .dfr _ _ _ _, _, _, _, _, _, hc, _, _ | .seq (.cond _ _ _) _, .dfr _ _ _ _, _, _, _, _, _, hc, _, _ | .seq (.block _ _) _, .dfr _ _ _ _, _, _, _, _, _, hc, _, _ | .seq (.loop _) _, .dfr _ _ _ _, _, _, _, _, _, hc, _, _ | .seq (.rangeFunc _ _ _ _) _, .dfr _ _ _ _, _, _, _, _, _, hc, _, _ | .seq (.exit _) _, .dfr _ _ _ _, _, _, _, _, _, hc, _, _ | .seq (.scope _) _, .dfr _ _ _ _, _, _, _, _, _, hc, _, _ | .seq (.label _) _, .dfr _ _ _ _, _, _, _, _, _, hc, _, _ | .seq (.goto _) _, .dfr _ _ _ _, _, _, _, _, _, hc, _, _ | .seq .ret _, .dfr _ _ _ _, _, _, _, _, _, hc, _, _ | .seq (.refuse _) _, .dfr _ _ _ _, _, _, _, _, _, hc, _, _ => by simp [FSt.chk] at hc

theorem Xa7 (hm : P.p.follows .mixedOrders = true) {f : Nat} {s : FSt} {rs : List RV} {ds : List D} {ob0 : Objs} {K : V → Prop} (hc : Xl5 P.p f ds.length s rs = true)
  (h : fwp P rs K s (Qe 0 (ds.map .d)) []) : PCall P f (ds.map .d) ob0 K := by
 unfold Xl5 at hc
 split at hc
 ·rename_i fn hf
  split at hc
  ·rename_i code hb
   simp only [Bool.and_eq_true, decide_eq_true_eq] at hc
   obtain ⟨⟨hn, h1⟩, h2⟩ := hc
   refine ⟨fun w ρ args hO hg hr => ?_⟩
   let ρ1 : Env := ⟨fun _ => none, own ρ, ρ.gl⟩
   let c : Ctx := ⟨w, fun _ => False, fn.ntmps, [], P.g, fun _ => none, []⟩
   have hnone : ∀ b, ¬ Xk5 ρ1 b := fun b ⟨_, _, h, _⟩ => by cases h
   have hlt : ∀ b, own ρ b → b < w.heap.size := fun b h => h.elim (fun ⟨_, _, h1, h2⟩ => Vl hO h1 h2) (hO.xlt b)
   have mo : Xe1 w (own ρ) w (own ρ1) := fun b h1 _ => ⟨rfl, fun h2 => h2.elim (hnone b) h1⟩
   have hr0 := Ve mo _ _ ds rfl hr
   have hlen : args.length = ds.length := by simpa using Ze hr
   have m : Mod c (own ρ) ρ1 (Qe 0 (ds.map .d)) [] { tmps := args.toArray ++ Array.replicate (fn.ntmps - args.toArray.size) undef, defers := [] } w := by
    refine ⟨⟨Nat.le_refl _, fun _ _ _ => rfl, fun b h => absurd h (hnone b), rfl, rfl, rfl, (fun id o h => by cases h), (fun p hp => by cases hp)⟩, ⟨fun j x hx => (by simp [lookO] at hx), fun j o hj => (by cases hj), fun i j o p b hi => (by cases hi), fun b hb => hlt b hb, fun b o hb => ⟨(hO.glb b o hb).1, fun h => h.elim (hnone b) (hO.glb b o hb).2⟩, fun b hb => absurd hb (hnone b), trivial⟩, ?_, ?_, rfl, rfl, hg⟩
    ·refine Ul hr0 0 _ (fun i hi => ?_)
     simp [Array.getElem?_append, hi]
    ·simp [c]; omega
   exact calls_of_wp_defers hf hb (Xfs (w0 := w) (ρ0 := ρ) hm (c := c) rfl rfl (fun _ h => h) rfl (fun _ => rfl) h2 code s _ _ _ _ w h1 h m)
  ·simp at hc
 ·simp at hc
end

inductive FS2 where
 | pre (s : S2) (r : FS2)
 | dfr (l : List It2) (keep : List (Nat × E)) (k : Nat) (s : S2)
def FSt.lift (fs : List Nat) : FSt → Option FS2
 | .pre s r => match s.lift fs, r.lift fs with
  | some s, some r => some (.pre s r)
  | _, _ => none
 | .dfr its kp k s => match Qw fs kp [] its [] [] [], s.lift fs with
  | some (l, keep), some s => some (.dfr l keep k s)
  | _, _ => none
def Xdm (P : Prg) (T : Tab) (s : S2) (rs : List RV) (K : V → Prop) (sl : Xb) (ob : Objs) : V → Prop
 | .fn g fi ca => Xi P.p g = true ∧ Yo P T s (Xdl P g (fi ++ ca) rs K) sl ob
 | _ => False
def Xm5 (P : Prg) (T : Tab) (rs : List RV) (K : V → Prop) : FS2 → Xb → Objs → Prop
 | .pre s r, sl, ob => Yo P T s (Zt (Xm5 P T rs K r) (Xa9 rs K)) sl ob
 | .dfr l keep k s, sl, ob => Wr P T (fun sl ob => Z0 T sl ob keep ∧ Xdm P T s rs K (Vc T sl ob keep) ob (look (Vc T sl ob keep) k)) (fun _ _ _ => False) l sl ob

theorem Ycq {T : Tab} {sl : Xb} {ob : Objs} : Inv T [] sl sl ob := fun k p e h => by
 simp [ent, Zj] at h; obtain ⟨rfl, rfl⟩ := h; exact ⟨fun _ => rfl, fun h => by cases h⟩

theorem FSt.lift_sound {P : Prg} {T : Tab} (hT : TOk P T) {fs : List Nat} {rs : List RV} {K : V → Prop} : ∀ (s : FSt) {s2 : FS2} {sl : Xb} {ob : Objs}, s.lift fs = some s2 → Xm5 P T rs K s2 sl ob → fwp P rs K s sl ob
 | .pre s r, s2, sl, ob, h, hc => by
  simp only [FSt.lift] at h
  split at h
  ·rename_i s' r' hs hr
   cases h
   simp only [Xm5] at hc
   simp only [fwp]
   refine S.lift_sound hT s hs (fun e sl ob h => ?_) hc
   cases e with
   | normal => exact FSt.lift_sound hT r hr h
   | _ => exact h
  ·cases h
 | .dfr its kp k s, s2, sl, ob, h, hc => by
  simp only [FSt.lift] at h
  split at h
  ·rename_i l keep s' hl hs
   cases h
   simp only [Xm5] at hc
   simp only [fwp]
   have hmono : ∀ sl ob, Xdm P T s' rs K sl ob (look sl k) → X4e P s rs K sl ob (look sl k) := fun sl ob h => by
    unfold Xdm at h
    split at h
    ·rename_i g fi ca e1
     simp only [X4e, e1]
     exact ⟨h.1, S.lift_sound hT s hs (fun _ _ _ h => h) h.2⟩
    ·exact h.elim
   have := Yh (pk := []) hT (K := fun sl ob => Xdm P T s' rs K sl ob (look sl k)) (K' := fun sl ob => X4e P s rs K sl ob (look sl k)) (Pn := fun _ _ _ => False) (Pn' := fun _ _ _ => False) hmono (fun _ _ _ h => h) its Ycq hl hc
   exact this
  ·cases h

theorem Jt {P : Prg} {p : Program} (hP : P.p = p) (hm : p.follows .mixedOrders = true) {f : Nat} {s : FSt} {rs : List RV} {ds : List D} {ob0 : Objs} {K : V → Prop} {fs : List Nat} {s2 : FS2} {T : Tab} (hc : Xl5 p f ds.length s rs = true) (hl : s.lift fs = some s2) (hT : TOk P T)
  (h : Xm5 P T rs K s2 (Qe 0 (ds.map .d)) []) : PCall P f (ds.map .d) ob0 K := by
 subst hP
 exact Xa7 hm hc (FSt.lift_sound hT s hl h)

theorem Xca {P : Prg} {p : Program} (hP : P.p = p) (hm : p.follows .mixedOrders = true) {f k : Nat} {its : List It} {s : S} {vs : List V} {ob : Objs} {rv : Option V} {K : Objs → Prop} {fs keep : List Nat} {l : List It2} {kp : List (Nat × E)} {s2 : S2} {T : Tab} (hc : Xlv p f vs.length k its s = true)
  (hl : Qw fs keep [] its [] [] [] = some (l, kp)) (hs : s.lift fs = some s2) (hT : TOk P T)
  (h : Wr P T (fun sl ob' => Z0 T sl ob' kp ∧ Yo P T s2 (dQ (fresh ob) K) (Vc T sl ob' kp) ob') (fun _ _ _ => False) l ((k, rv.getD (.d .nili)) :: Qe 0 vs) ob) : DCall P f vs ob rv K := by
 subst hP
 refine Xcb hm (keep := keep) hc ?_
 have := Yh (pk := []) hT (K := fun sl ob' => Yo P T s2 (dQ (fresh ob) K) sl ob') (K' := fun sl ob' => cwp P s (dQ (fresh ob) K) sl ob') (Pn := fun _ _ _ => False) (Pn' := fun _ _ _ => False) (fun sl ob h => S.lift_sound hT s hs (fun _ _ _ h => h) h) (fun _ _ _ h => h) its Ycq hl h
 exact this

section
variable (P : Prg) (T : Tab) (sl : Xb) (ob : Objs) (rs : List RV) (K : V → Prop) (KB : Objs → Prop) (n k g : Nat) (v : V) (cl : List V)
@[simp] theorem fwp2_pre (s : S2) (r : FS2) : Xm5 P T rs K (.pre s r) sl ob = Yo P T s (Zt (Xm5 P T rs K r) (Xa9 rs K)) sl ob := by simp only [Xm5]
@[simp] theorem fwp2_dfr (l : List It2) (kp : List (Nat × E)) (s : S2) : Xm5 P T rs K (.dfr l kp k s) sl ob = Wr P T (fun sl ob => Z0 T sl ob kp ∧ Xdm P T s rs K (Vc T sl ob kp) ob (look (Vc T sl ob kp) k)) (fun _ _ _ => False) l sl ob := by simp only [Xm5]
@[simp] theorem dfrK2_f (s : S2) (fi ca : List V) : Xdm P T s rs K sl ob (.fn g fi ca) = (Xi P.p g = true ∧ Yo P T s (Xdl P g (fi ++ ca) rs K) sl ob) := by simp only [Xdm]
@[simp] theorem dferQ_r : Xdl P g cl rs K .ret sl ob = DCall P g cl ob none fun ob' => Wg sl ob' rs fun vs => Z6 (fun l _ => K (W5 (l.map .d))) (V.givs ob' vs) := by simp only [Xdl]
theorem Xzk : Xdl P g cl rs K (.panic v) sl ob = ((∃ t y, v = .iface t y ∨ ∃ z, v = .d (.iface t z)) ∧ DCall P g cl ob (some v) fun ob' => Wg sl ob' rs fun vs => Z6 (fun l _ => K (W5 (l.map .d))) (V.givs ob' vs)) := by simp only [Xdl]
@[simp] theorem dferQ_pd (t : Nat) (z : D) : Xdl P g cl rs K (.panic (.d (.iface t z))) sl ob = DCall P g cl ob (some (.d (.iface t z))) fun ob' => Wg sl ob' rs fun vs => Z6 (fun l _ => K (W5 (l.map .d))) (V.givs ob' vs) := by
 rw [Xzk, eq_iff_iff]; exact ⟨fun h => h.2, fun h => ⟨⟨t, .any, .inr ⟨z, rfl⟩⟩, h⟩⟩
@[simp] theorem dQ_n : dQ n KB .normal sl ob = X0 n KB [] ob := by simp only [dQ]
@[simp] theorem dQ_p : dQ n KB (.panic v) sl ob = False := by simp only [dQ]
end
@[congr] theorem DCall_congr {P : Prg} {f : Nat} {vs vs' : List V} {ob ob' : Objs} {rv rv' : Option V} {K : Objs → Prop} (h : vs = vs') (h' : ob = ob') (h2 : rv = rv') : DCall P f vs ob rv K = DCall P f vs' ob' rv' K := by rw [h, h', h2]
@[congr] theorem dfrK2_congr {P : Prg} {T : Tab} {s : S2} {rs : List RV} {K : V → Prop} {sl sl' : Xb} {ob ob' : Objs} {v v' : V} (h : sl = sl') (h' : ob = ob') (h2 : v = v') : Xdm P T s rs K sl ob v = Xdm P T s rs K sl' ob' v' := by rw [h, h', h2]
@[congr] theorem fwp2_congr {P : Prg} {T : Tab} {rs : List RV} {K : V → Prop} {s : FS2} {sl sl' : Xb} {ob ob' : Objs} (h : sl = sl') (h' : ob = ob') : Xm5 P T rs K s sl ob = Xm5 P T rs K s sl' ob' := by rw [h, h']
end Go.Ab
/- More equations for states. Over any program; no condition. -/
namespace Go.Ab
open Go
section
variable {ob : Objs} {n k : Nat} {l : List Nat}
theorem Xv9 (h : k < n) : young n l k = false := by simp [young]; omega
@[simp] theorem Uq (h : fresh ob ≤ n) : Yt (young n l) ob = ob := by
 induction ob with
 | nil => rfl
 | cons e r ih =>
  obtain ⟨i, y⟩ := e
  simp only [fresh] at h
  have hi : i < n ∧ fresh r ≤ n := by split at h <;> omega
  simp only [Yt, Xv9 hi.1, Bool.false_eq_true, if_false, ih hi.2]
@[simp] theorem young_old_add (m : Nat) (h : (lookO ob k).isSome = true) : young (fresh ob + m) l k = false := by
 have : k < fresh ob := by
  rcases Nat.lt_or_ge k (fresh ob) with h1 | h1
  ·exact h1
  ·rw [X1 ob k h1] at h; cases h
 simp [young]; omega
mutual
theorem V.men_mono {p q : Nat → Bool} (h : ∀ j, q j = false → p j = false) : ∀ v : V, V.men q v = false → V.men p v = false
 | .d _, _ => rfl
 | .ptr id _, e => h id e
 | .sl id _, e => h id e
 | .sd id _, e => h id e
 | .mp id, e => h id e
 | .ep id _ _ _ _ _, e => h id e
 | .bs id _ _ _, e => h id e
 | .fn _ a b, e => by
  simp only [V.men, Bool.or_eq_false_iff] at e ⊢
  exact ⟨V.mens_mono h a e.1, V.mens_mono h b e.2⟩
 | .agg xs, e => by simp only [V.men] at e ⊢; exact V.mens_mono h xs e
 | .iface _ v, e => by simp only [V.men] at e ⊢; exact V.men_mono h v e
 | .tup xs, e => by simp only [V.men] at e ⊢; exact V.mens_mono h xs e
 | .undef, _ => rfl
 | .any, _ => rfl
theorem V.mens_mono {p q : Nat → Bool} (h : ∀ j, q j = false → p j = false) : ∀ xs : List V, V.mens q xs = false → V.mens p xs = false
 | [], _ => rfl
 | x :: r, e => by
  simp only [V.mens, Bool.or_eq_false_iff] at e ⊢
  exact ⟨V.men_mono h x e.1, V.mens_mono h r e.2⟩
end
theorem Xcv {p q : Nat → Bool} (h : ∀ j, q j = false → p j = false) : ∀ xs : List (D × V), Qz q xs = false → Qz p xs = false
 | [], _ => rfl
 | (_, x) :: r, e => by
  simp only [Qz, Bool.or_eq_false_iff] at e ⊢
  exact ⟨V.men_mono h x e.1, Xcv h r e.2⟩
theorem noMenO_mono {p q : Nat → Bool} (h : ∀ j, q j = false → p j = false) : ∀ ob : Objs, noMenO q ob = true → noMenO p ob = true
 | [], _ => rfl
 | (_, .box _ t) :: r, e => by
  simp only [noMenO, Bool.and_eq_true, Bool.not_eq_true'] at e ⊢
  exact ⟨V.men_mono h t e.1, noMenO_mono h r e.2⟩
 | (_, .vec _ _ t) :: r, e => by
  simp only [noMenO, Bool.and_eq_true, Bool.not_eq_true'] at e ⊢
  exact ⟨V.mens_mono h t e.1, noMenO_mono h r e.2⟩
 | (_, .map t) :: r, e => by
  simp only [noMenO, Bool.and_eq_true, Bool.not_eq_true'] at e ⊢
  exact ⟨Xcv h t e.1, noMenO_mono h r e.2⟩
 | (_, .arr _ _ _) :: r, e => by simp only [noMenO] at e ⊢; exact noMenO_mono h r e
 | (_, .gone) :: r, e => by simp only [noMenO] at e ⊢; exact noMenO_mono h r e
theorem noMenO_up (h : ∀ kp, noMenO (young (fresh ob) kp) ob = true) (hn : fresh ob ≤ n) : noMenO (young n l) ob = true :=
 noMenO_mono (fun j e => by simp [young] at e ⊢; intro hj; exact e (by omega)) ob (h l)
theorem Xv (m : Nat) (h : ∀ kp, noMenO (young (fresh ob) kp) ob = true) : noMenO (young (fresh ob + m) l) ob = true := noMenO_up h (by omega)
theorem DCall.of_wf {P : Prg} {f : Nat} {vs : List V} {ob : Objs} {rv : Option V} {K : Objs → Prop} (h : (∀ kp, V.mens (young (fresh ob) kp) vs = false) → (∀ kp, noMenO (young (fresh ob) kp) ob = true) → DCall P f vs ob rv K) : DCall P f vs ob rv K := by
 have key : ∀ w ρ args, OM w ρ ob → V.reps w ρ vs args → DCall P f vs ob rv K := fun w ρ args hO hr => by
  have old : ∀ kp id o, ρ.m id = some o → young (fresh ob) kp id = false := fun kp id o h0 => by
   obtain ⟨x, hx⟩ := hO.dom id o h0
   have hlt : ¬ fresh ob ≤ id := fun hle => by rw [X1 _ _ hle] at hx; cases hx
   simp [young, hlt]
  exact h (fun kp => V.mens_dom (old kp) _ _ hr) (fun kp => Z1 ob fun e he => (hO.one e.1 _ (hO.once.look e he)).noMen (old kp))
 exact ⟨fun e w ρ args hO hg hr => (key w ρ args hO hr).ret e w ρ args hO hg hr, fun v e w ρ args x hO hg hr hv hi => (key w ρ args hO hr).pan v e w ρ args x hO hg hr hv hi⟩
end
end Go.Ab
/- More equations: orders, maps, package variables, comparisons. Over any program; no condition. -/
namespace Go.Ab
open Go
section
variable {P : Prg} {T : Tab} {sl : Xb} {ob : Objs} {K : Xb → Objs → Prop} {Pn : V → Xb → Objs → Prop}
@[simp] theorem zl : owp P K Pn .done sl ob = K sl ob := by simp only [owp]
@[simp] theorem zm (i : Nat) (x : It) (r : Ot) : owp P K Pn (.one i x r) sl ob = itK P (owp P K Pn r) Pn x sl ob := by simp only [owp]
@[simp] theorem zk (l : Ots) : owp P K Pn (.br l) sl ob = Xe4 P K Pn l sl ob := by simp only [owp]
@[simp] theorem zo : Xe4 P K Pn .nil sl ob = True := by simp only [Xe4]
@[simp] theorem zn (i : Nat) (x : It) (r : Ot) (l : Ots) : Xe4 P K Pn (.cons i x r l) sl ob = (itK P (owp P K Pn r) Pn x sl ob ∧ Xe4 P K Pn l sl ob) := by simp only [Xe4]
@[simp] theorem qq (d : Option Nat) (i : I) : itK P K Pn (.op d i) sl ob = i.wp P sl ob (fun v ob' => K (put sl d v) ob') (fun v ob' => Pn v sl ob') := by simp only [itK]
@[simp] theorem qp (s : Nat) (b : Bool) (d : Option Nat) (i : I) : itK P K Pn (.gop s b d i) sl ob = gdK s b sl (fun sl => i.wp P sl ob (fun v ob' => K (put sl d v) ob') (fun v ob' => Pn v sl ob')) (fun sl => K (put sl d .undef) ob) (look sl s) := by simp only [itK]
@[simp] theorem qm (t : Ot) (kp pk : List Nat) (Q : Z5) : Yo P T (.rgT t kp pk) Q sl ob = owp P (fun sl ob => Q .normal (Xd sl kp) ob) (fun v sl ob => Q (.panic v) (Xd sl pk) ob) t sl ob := by simp only [Yo]
variable {KO PO : V → Objs → Prop} {KV : V → Prop}
@[simp] theorem iwp_mkm (r : Option A) : I.wp P sl ob KO PO (.mkm r) = (Xwx sl r ∧ KO (.mp (fresh ob)) ((fresh ob, .map []) :: ob)) := by simp only [I.wp]
@[simp] theorem iwp_lkp (kd z : D) (ok : Bool) (m k : A) : I.wp P sl ob KO PO (.lkp kd z ok m k) = Xpl ob kd z ok (fun v => KO v ob) (m.ev sl) (k.ev sl) := by simp only [I.wp]
@[simp] theorem iwp_mset (kd : D) (m k v : A) : I.wp P sl ob KO PO (.mset kd m k v) = Xa1 ob kd (v.ev sl) KO (m.ev sl) (k.ev sl) := by simp only [I.wp]
@[simp] theorem qz (g n : Nat) (ag : Bool) (x : D) : I.wp P sl ob KO PO (.gld g n ag x) = (Zl P g x ∧ x.sz = n ∧ (V.d x).isAgg = ag ∧ KO (.d x) ob) := by simp only [I.wp]
@[simp] theorem iwp_slg (n z : Nat) (x : A) : I.wp P sl ob KO PO (.slg n z x) = Xrd ob n z KO (x.ev sl) := by simp only [I.wp]
@[simp] theorem slgK_ptr (n z id : Nat) (p : List Nat) : Xrd ob n z KO (.ptr id p) = Xer n z (fun x => KO (.d x) (setO ob id .gone)) (atO ob id p) := by simp only [Xrd]
@[simp] theorem slgKv_agg (n z : Nat) (K : D → Prop) (xs : List D) : Xer n z K (some (.d (.agg xs))) = (xs.length = n ∧ (∀ x ∈ xs, x.sz = z) ∧ K (.list z xs)) := by simp only [Xer]
@[simp] theorem mkmK_some (x : A) : Xwx sl (some x) = Xfz (x.ev sl) := by simp only [Xwx]
@[simp] theorem isIntV_int (k : IntKind) (n : Int) : Xfz (.d (.int k n)) = True := by simp only [Xfz]
@[simp] theorem lkpK_mp (kd z k : D) (ok : Bool) (id : Nat) : Xpl ob kd z ok KV (.mp id) (.d k) = Xdw kd z ok k KV (lookO ob id) := by simp only [Xpl]
@[simp] theorem lkpKo_map (kd z k : D) (ok : Bool) (es : List (D × V)) : Xdw kd z ok k KV (some (.map es)) = (Xcp kd k es ∧ KV (Xvh z ok (Jq k es))) := by simp only [Xdw]
@[simp] theorem msetK_mp (kd k : D) (v : V) (id : Nat) : Xa1 ob kd v KO (.mp id) (.d k) = U3 ob id kd k v KO (lookO ob id) := by simp only [Xa1]
@[simp] theorem msetKo_map (kd k : D) (v : V) (id : Nat) (es : List (D × V)) : U3 ob id kd k v KO (some (.map es)) = (Xcp kd k es ∧ v.sto = true ∧ KO .undef (setO ob id (.map (Xm9 k v es)))) := by simp only [U3]
@[simp] theorem lkpV_fs (z : D) (v : V) : Xvh z false (some v) = v := by simp only [Xvh]
@[simp] theorem lkpV_fn (z : D) : Xvh z false none = .d z := by simp only [Xvh]
@[simp] theorem findE_nil (k : D) : Jq k [] = none := by simp only [Jq]
@[simp] theorem updE_nil (k : D) (x : V) : Xm9 k x [] = [(k, x)] := by simp only [Xm9]
@[simp] theorem cwp_idxV (n z : Nat) (ag : Bool) (x y : A) : C.wp sl ob KV (.aix n z ag x y) = Xh5 n z ag KV (x.ev sl) (y.ev sl) := by simp only [C.wp]
@[simp] theorem cval_eqD (ty : KT) (e : Bool) (x y : A) : C.val sl ob (.eqD ty e x y) = X3f e (x.ev sl) (y.ev sl) := by simp only [C.val]
@[simp] theorem cval_idxV (n z : Nat) (ag : Bool) (x y : A) : C.val sl ob (.aix n z ag x y) = Xl7 (x.ev sl) (y.ev sl) := by simp only [C.val]
@[simp] theorem eqDV_d (e : Bool) (x y : D) : X3f e (.d x) (.d y) = .d (.bool (D.eqb x y == e)) := by simp only [X3f]
@[simp] theorem idxVV_d (k : IntKind) (xs : List D) (n : Int) : Xl7 (.d (.agg xs)) (.d (.int k n)) = .d (xs.getD n.toNat default) := by simp only [Xl7]
def X4j (ty : KT) : V → V → Prop
 | .d x, .d y => ty.fits x = true ∧ ty.fits y = true
 | _, _ => False
@[simp] theorem eqDS_d (ty : KT) (x y : D) : X4j ty (.d x) (.d y) = (ty.fits x = true ∧ ty.fits y = true) := by simp only [X4j]
@[simp] theorem cok_eqD (ty : KT) (e : Bool) (x y : A) : C.ok sl ob (.eqD ty e x y) = X4j ty (x.ev sl) (y.ev sl) := by
 simp only [C.ok, C.wp, C.val]
 generalize x.ev sl = a; generalize y.ev sl = b
 cases a <;> cases b <;> simp [X4i, X4j, X3f]
end
attribute [simp] D.eqb D.eqbs KT.fits KT.fitss KT.fitsA
@[congr] theorem owp_congr {P : Prg} {K : Xb → Objs → Prop} {Pn : V → Xb → Objs → Prop} {t : Ot} {sl : Xb} {ob : Objs} : owp P K Pn t sl ob = owp P K Pn t sl ob := rfl
@[congr] theorem itK_congr {P : Prg} {K : Xb → Objs → Prop} {Pn : V → Xb → Objs → Prop} {t : It} {sl : Xb} {ob : Objs} : itK P K Pn t sl ob = itK P K Pn t sl ob := rfl
@[congr] theorem slgK_congr {ob : Objs} {n z : Nat} {K : V → Objs → Prop} {u u' : V} (h0 : u = u') : Xrd ob n z K u = Xrd ob n z K u' := by rw [h0]
@[congr] theorem slgKv_congr {n z : Nat} {K : D → Prop} {u u' : Option V} (h0 : u = u') : Xer n z K u = Xer n z K u' := by rw [h0]
@[congr] theorem lkpK_congr {ob : Objs} {kd z : D} {ok : Bool} {K : V → Prop} {u u' v v' : V} (h0 : u = u') (h1 : v = v') : Xpl ob kd z ok K u v = Xpl ob kd z ok K u' v' := by rw [h0, h1]
@[congr] theorem lkpKo_congr {kd z k : D} {ok : Bool} {K : V → Prop} {o o' : Option Ob} (h0 : o = o') : Xdw kd z ok k K o = Xdw kd z ok k K o' := by rw [h0]
@[congr] theorem msetK_congr {ob : Objs} {kd : D} {x x' : V} {K : V → Objs → Prop} {u u' v v' : V} (h : x = x') (h0 : u = u') (h1 : v = v') : Xa1 ob kd x K u v = Xa1 ob kd x' K u' v' := by rw [h, h0, h1]
@[congr] theorem msetKo_congr {ob : Objs} {id : Nat} {kd k : D} {x : V} {K : V → Objs → Prop} {o o' : Option Ob} (h0 : o = o') : U3 ob id kd k x K o = U3 ob id kd k x K o' := by rw [h0]
structure Pin {α : Type} (a : α) : Type where
 mk ::
section
variable {P : Prg} {T : Tab} {sl : Xb} {ob : Objs} {KO PO : V → Objs → Prop}
end
end Go.Ab
/- Abz -/
namespace Go.Ab
open Go
def Ygs : Nat → Nat → List Nat
  | 0, _ => []
  | f + 1, n => match n with
    | 0 => []
    | m + 1 => ((m + 1) % 64) :: Ygs f ((m + 1) / 64)
abbrev Zr (α : Type) := Option (α × List Nat)
def Yb1 : Nat → Nat → Nat → List Nat → Zr Nat
  | 0, a, _, s => some (a, s)
  | n + 1, a, p, d :: s => Yb1 n (a + d * p) (p * 64) s
  | _ + 1, _, _, [] => none
def rN : List Nat → Zr Nat
  | [] => none
  | d :: s => match d.ble 55 with
    | true => some (d, s)
    | false => match d.ble 59 with
      | true => Yb1 1 ((d - 56) * 64 + 56) 1 s
      | false => Yb1 ([2, 4, 6, 12].getD (d - 60) 0) 0 1 s
def rZ (s : List Nat) : Zr Int := (rN s).bind fun (n, s) => some (match n % 2 with | 0 => Int.ofNat (n / 2) | _ => Int.negSucc (n / 2), s)
def rB (s : List Nat) : Zr Bool := (rN s).bind fun (n, s) => some (n.beq 1, s)
def rIK (s : List Nat) : Zr IntKind := (rN s).bind fun (n, s) => some (([.i8, .i16, .i32, .i64, .u8, .u16, .u32, .u64] : List IntKind).getD n .i64, s)
def rBO (s : List Nat) : Zr BinOp := (rN s).bind fun (n, s) => some (([.add, .sub, .mul, .quo, .rem, .and, .or, .xor, .andNot, .shl, .shr, .eql, .neq, .lss, .leq, .gtr, .geq] : List BinOp).getD n .add, s)
def rL' {α : Type} (p : List Nat → Zr α) : Nat → List Nat → Zr (List α)
  | 0, s => some ([], s)
  | n + 1, s => (p s).bind fun (x, s) => (rL' p n s).bind fun (l, s) => some (x :: l, s)
def rL {α : Type} (p : List Nat → Zr α) (s : List Nat) : Zr (List α) := (rN s).bind fun (n, s) => rL' p n s
def rO {α : Type} (p : List Nat → Zr α) (s : List Nat) : Zr (Option α) := (rN s).bind fun (n, s) => match n with | 0 => some (none, s) | _ => (p s).bind fun (x, s) => some (some x, s)
def rP {α β : Type} (p : List Nat → Zr α) (q : List Nat → Zr β) (s : List Nat) : Zr (α × β) := (p s).bind fun (x, s) => (q s).bind fun (y, s) => some ((x, y), s)
def rb : List Nat → Zr UInt8
  | [] => none
  | d :: s => match d.ble 47 with
    | true => some (UInt8.ofNat (d + 96), s)
    | false => match s with
      | [] => none
      | e :: s => some (UInt8.ofNat ((d - 48) * 64 + e), s)
def rY : List Nat → Zr (List UInt8) := rL rb
mutual
def rD : Nat → List Nat → Zr D
  | 0, _ => none
  | f + 1, s => (rN s).bind fun (n, s) => match n with
    | 0 => (rIK s).bind fun (a, s) => (rZ s).bind fun (b, s) => some (.int a b, s)
    | 1 => (rB s).bind fun (a, s) => some (.bool a, s)
    | 2 => (rY s).bind fun (a, s) => some (.str a, s)
    | 3 => some (.nils, s)
    | 4 => (rN s).bind fun (a, s) => (rLD f s).bind fun (b, s) => some (.list a b, s)
    | 5 => (rLD f s).bind fun (a, s) => some (.agg a, s)
    | 6 => some (.nili, s)
    | 7 => some (.nilp, s)
    | 8 => some (.nilf, s)
    | 9 => some (.nilm, s)
    | 10 => (rD f s).bind fun (a, s) => some (.ref a, s)
    | 11 => (rN s).bind fun (a, s) => (rD f s).bind fun (b, s) => some (.iface a b, s)
    | 12 => (rN s).bind fun (a, s) => (rLD f s).bind fun (b, s) => (rLD f s).bind fun (c, s) => some (.fn a b c, s)
    | _ => none
def rLD : Nat → List Nat → Zr (List D)
  | 0, _ => none
  | f + 1, s => (rN s).bind fun (m, s) => match m with | 0 => (rN s).bind fun (n, s) => rMD f n s | _ => (rN s).bind fun (n, s) => (rD f s).bind fun (x, s) => some (List.replicate n x, s)
def rMD : Nat → Nat → List Nat → Zr (List D)
  | 0, _, _ => none
  | _ + 1, 0, s => some ([], s)
  | f + 1, n + 1, s => (rD f s).bind fun (x, s) => (rMD f n s).bind fun (l, s) => some (x :: l, s)
end
mutual
def rK : Nat → List Nat → Zr KT
  | 0, _ => none
  | f + 1, s => (rN s).bind fun (n, s) => match n with
    | 0 => (rIK s).bind fun (a, s) => some (.int a, s)
    | 1 => some (.bool, s)
    | 2 => some (.str, s)
    | 3 => (rLK f s).bind fun (a, s) => some (.st a, s)
    | 4 => (rN s).bind fun (a, s) => (rK f s).bind fun (b, s) => some (.ar a b, s)
    | _ => none
def rLK : Nat → List Nat → Zr (List KT)
  | 0, _ => none
  | f + 1, s => (rN s).bind fun (n, s) => rMK f n s
def rMK : Nat → Nat → List Nat → Zr (List KT)
  | 0, _, _ => none
  | _ + 1, 0, s => some ([], s)
  | f + 1, n + 1, s => (rK f s).bind fun (x, s) => (rMK f n s).bind fun (l, s) => some (x :: l, s)
end
def rA : List Nat → Zr A
  | [] => none
  | d :: s => match d.ble 43 with
    | true => some (.t d, s)
    | false => match d - 44 with
    | 0 => (rN s).bind fun (a, s) => some (.t a, s)
    | 1 => (rIK s).bind fun (a, s) => (rZ s).bind fun (b, s) => some (.int a b, s)
    | 2 => (rB s).bind fun (a, s) => some (.bool a, s)
    | 3 => (rY s).bind fun (a, s) => some (.str a, s)
    | 4 => some (.nils, s)
    | 5 => some (.nili, s)
    | 6 => some (.nilp, s)
    | 7 => some (.nilf, s)
    | 8 => some (.nilm, s)
    | 9 => (rN s).bind fun (a, s) => some (.nl a, s)
    | 10 => (rN s).bind fun (a, s) => some (.fn a, s)
    | _ => none
def rC (s : List Nat) : Zr C := (rN s).bind fun (n, s) => match n with
    | 12 => (rA s).bind fun (a, s) => some (.neg a, s)
    | 13 => (rB s).bind fun (a, s) => (rA s).bind fun (b, s) => (rA s).bind fun (c, s) => some (.beq a b c, s)
    | 14 => (rB s).bind fun (a, s) => (rA s).bind fun (b, s) => some (.isnil a b, s)
    | 15 => (rB s).bind fun (a, s) => (rA s).bind fun (b, s) => some (.pnil a b, s)
    | 16 => (rB s).bind fun (a, s) => (rA s).bind fun (b, s) => some (.fnil a b, s)
    | 17 => (rB s).bind fun (a, s) => (rA s).bind fun (b, s) => (rA s).bind fun (c, s) => some (.peq a b c, s)
    | 18 => (rA s).bind fun (a, s) => some (.usd a, s)
    | 19 => (rIK s).bind fun (a, s) => (rA s).bind fun (b, s) => some (.cvi a b, s)
    | 20 => (rA s).bind fun (a, s) => some (.cvs a, s)
    | 21 => (rA s).bind fun (a, s) => (rA s).bind fun (b, s) => some (.idx a b, s)
    | 22 => (rN s).bind fun (a, s) => (rN s).bind fun (b, s) => (rA s).bind fun (c, s) => (rA s).bind fun (d, s) => some (.idxP a b c d, s)
    | 23 => (rN s).bind fun (a, s) => (rN s).bind fun (b, s) => (rN s).bind fun (c, s) => (rB s).bind fun (d, s) => (rA s).bind fun (e, s) => some (.fld a b c d e, s)
    | 24 => (rA s).bind fun (a, s) => some (.lenS a, s)
    | 25 => (rN s).bind fun (a, s) => some (.lenA a, s)
    | 26 => (rA s).bind fun (a, s) => (rO (rA) s).bind fun (b, s) => (rO (rA) s).bind fun (c, s) => some (.slcS a b c, s)
    | 27 => (rN s).bind fun (a, s) => (rA s).bind fun (b, s) => (rO (rA) s).bind fun (c, s) => (rO (rA) s).bind fun (d, s) => some (.slcL a b c d, s)
    | 28 => (rN s).bind fun (a, s) => (rL (rA) s).bind fun (b, s) => (rL (rA) s).bind fun (c, s) => some (.mkf a b c, s)
    | 29 => (rN s).bind fun (a, s) => (rD 90 s).bind fun (b, s) => (rA s).bind fun (c, s) => some (.tas a b c, s)
    | 30 => (rK 90 s).bind fun (a, s) => (rB s).bind fun (b, s) => (rA s).bind fun (c, s) => (rA s).bind fun (d, s) => some (.eqD a b c d, s)
    | 31 => (rN s).bind fun (a, s) => (rN s).bind fun (b, s) => (rB s).bind fun (c, s) => (rA s).bind fun (d, s) => (rA s).bind fun (e, s) => some (.aix a b c d e, s)
    | _ => none
def rI (s : List Nat) : Zr I := (rN s).bind fun (n, s) => match n with
    | 10 => (rN s).bind fun (a, s) => (rN s).bind fun (b, s) => (rA s).bind fun (c, s) => (rA s).bind fun (d, s) => some (.appS a b c d, s)
    | 11 => (rA s).bind fun (a, s) => some (.b2s a, s)
    | 12 => (rA s).bind fun (a, s) => some (.s2b a, s)
    | 13 => (rN s).bind fun (a, s) => (rN s).bind fun (b, s) => (rA s).bind fun (c, s) => some (.nilo a b c, s)
    | 14 => (rA s).bind fun (a, s) => some (.mvf a, s)
    | 15 => (rN s).bind fun (a, s) => (rB s).bind fun (b, s) => (rA s).bind fun (c, s) => some (.ldf a b c, s)
    | 16 => (rN s).bind fun (a, s) => (rN s).bind fun (b, s) => (rA s).bind fun (c, s) => (rA s).bind fun (d, s) => (rL (rN) s).bind fun (e, s) => some (.mvg a b c d e, s)
    | 17 => (rA s).bind fun (a, s) => (rA s).bind fun (b, s) => (rL (rP (rN) (rP (rN) (rL (rN)))) s).bind fun (c, s) => some (.mvn a b c, s)
    | 18 => (rA s).bind fun (a, s) => some (.cvb a, s)
    | 19 => (rN s).bind fun (a, s) => (rA s).bind fun (b, s) => (rA s).bind fun (c, s) => some (.ustr a b c, s)
    | 20 => (rO (rA) s).bind fun (a, s) => some (.mkm a, s)
    | 21 => (rD 90 s).bind fun (a, s) => (rD 90 s).bind fun (b, s) => (rB s).bind fun (c, s) => (rA s).bind fun (d, s) => (rA s).bind fun (e, s) => some (.lkp a b c d e, s)
    | 22 => (rD 90 s).bind fun (a, s) => (rA s).bind fun (b, s) => (rA s).bind fun (c, s) => (rA s).bind fun (d, s) => some (.mset a b c d, s)
    | 23 => (rN s).bind fun (a, s) => (rN s).bind fun (b, s) => (rB s).bind fun (c, s) => (rD 90 s).bind fun (d, s) => some (.gld a b c d, s)
    | 24 => (rN s).bind fun (a, s) => (rN s).bind fun (b, s) => (rA s).bind fun (c, s) => some (.slg a b c, s)
    | _ => none
def rIc (c : Nat) (s : List Nat) : Zr I := match c with
    | 0 => (rA s).bind fun (a, s) => some (.c (.mv a), s)
    | 1 => (rN s).bind fun (a, s) => (rB s).bind fun (b, s) => (rA s).bind fun (c, s) => some (.c (.ld a b c), s)
    | 2 => (rN s).bind fun (a, s) => (rN s).bind fun (b, s) => (rA s).bind fun (c, s) => some (.c (.fldA a b c), s)
    | 3 => (rBO s).bind fun (a, s) => (rA s).bind fun (b, s) => (rA s).bind fun (c, s) => some (.c (.bin a b c), s)
    | 4 => (rA s).bind fun (a, s) => some (.c (.lenL a), s)
    | 5 => (rA s).bind fun (a, s) => some (.c (.nilc a), s)
    | 6 => (rN s).bind fun (a, s) => (rA s).bind fun (b, s) => (rA s).bind fun (c, s) => some (.c (.idxA a b c), s)
    | 7 => (rA s).bind fun (a, s) => (rN s).bind fun (b, s) => some (.c (.ext a b), s)
    | 8 => (rA s).bind fun (a, s) => (rA s).bind fun (b, s) => (rA s).bind fun (c, s) => some (.c (.pick a b c), s)
    | 9 => (rA s).bind fun (a, s) => some (.c (.not a), s)
    | 10 => (rLD 90 s).bind fun (a, s) => (rL (rP (rN) (rA)) s).bind fun (b, s) => some (.c (.bld a b), s)
    | 11 => (rN s).bind fun (a, s) => (rA s).bind fun (b, s) => some (.c (.mki a b), s)
    | 12 => (rA s).bind fun (a, s) => (rL (rA) s).bind fun (b, s) => some (.callv a b, s)
    | 13 => (rN s).bind fun (a, s) => (rL (rA) s).bind fun (b, s) => some (.call a b, s)
    | 14 => (rN s).bind fun (a, s) => (rL (rA) s).bind fun (b, s) => some (.pcall a b, s)
    | 15 => (rN s).bind fun (a, s) => (rN s).bind fun (b, s) => (rN s).bind fun (c, s) => (rA s).bind fun (d, s) => (rA s).bind fun (e, s) => some (.app a b c d e, s)
    | 16 => (rN s).bind fun (a, s) => (rD 90 s).bind fun (b, s) => some (.alloc a b, s)
    | 17 => (rN s).bind fun (a, s) => (rA s).bind fun (b, s) => some (.box a b, s)
    | 18 => (rN s).bind fun (a, s) => (rLD 90 s).bind fun (b, s) => (rL (rP (rN) (rA)) s).bind fun (c, s) => some (.bls a b c, s)
    | 19 => (rN s).bind fun (a, s) => (rN s).bind fun (b, s) => (rLD 90 s).bind fun (c, s) => (rL (rP (rN) (rA)) s).bind fun (d, s) => some (.blo a b c d, s)
    | 20 => (rN s).bind fun (a, s) => (rA s).bind fun (b, s) => (rA s).bind fun (c, s) => some (.st a b c, s)
    | 21 => (rA s).bind fun (a, s) => some (.panic a, s)
    | 28 => (rC s).bind fun (c, s) => some (.c c, s)
    | 29 => rI s
    | _ => none
def zop (g : Option (Nat × Bool)) (d : Option Nat) (l : Nat) (c : Nat) (s : List Nat) : Zr (Nat × It) := (rIc c s).bind fun (i, s) => some ((d.getD l, match g with | none => .op d i | some (a, b) => .gop a b d i), s)
def Yf9 (g : Option (Nat × Bool)) (l : Nat) : List Nat → Zr (Nat × It)
  | [] => none
  | c :: s => match c.ble 29 with
    | true => zop g (match c with | 20 => none | 21 => none | _ => some (l + 1)) l c s
    | false => (rN s).bind fun (n, s) => zop g (match n with | 0 => none | n + 1 => some n) l (c - 30) s
def rIt (l : Nat) : List Nat → Zr (Nat × It)
  | [] => none
  | c :: s => match c with
    | 61 => (rN s).bind fun (a, s) => (rB s).bind fun (b, s) => Yf9 (some (a, b)) l s
    | _ => Yf9 none l (c :: s)
def Yga : Nat → Nat → List Nat → Zr (Nat × List It)
  | 0, l, s => some ((l, []), s)
  | n + 1, l, s => (rIt l s).bind fun ((l, x), s) => (Yga n l s).bind fun ((l, r), s) => some ((l, x :: r), s)
mutual
def rOt : Nat → Nat → List Nat → Zr (Nat × Ot)
  | 0, _, _ => none
  | f + 1, l, s => (rN s).bind fun (n, s) => match n with
    | 0 => some ((l, .done), s)
    | 1 => (rN s).bind fun (i, s) => (rIt l s).bind fun ((l, x), s) => (rOt f l s).bind fun ((l, r), s) => some ((l, .one i x r), s)
    | 2 => (rN s).bind fun (n, s) => (Ygb f n l s).bind fun (t, s) => some ((l, .br t), s)
    | _ => none
def Ygb : Nat → Nat → Nat → List Nat → Zr Ots
  | 0, _, _, _ => none
  | _ + 1, 0, _, s => some (.nil, s)
  | f + 1, n + 1, l, s => (rN s).bind fun (i, s) => (rIt l s).bind fun ((l', x), s) => (rOt f l' s).bind fun ((_, r), s) => (Ygb f n l s).bind fun (t, s) => some (.cons i x r t, s)
end
structure Alg (τ : Type) where
  rg : List Nat → List It → List Nat → List Nat → τ
  rgT : Nat → Ot → List Nat → List Nat → τ
  seq : τ → τ → τ
  skip : τ
  cond : A → τ → τ → τ
  block : Nat → τ → τ
  loop : List Nat → τ → τ
  exit : Nat → τ
  ret : τ
def Yhj : Alg S := ⟨.rg, .rgT, .seq, .skip, .cond, .block, .loop, .exit, .ret⟩
def Yhi (fs : List Nat) : Alg S2 := ⟨fun _ l keep pk => match Qw fs keep pk l [] [] [] with
    | some (l, kp) => .rg l kp pk
    | none => .skip, fun _ t keep pk => .rgT t keep pk, .seq, .skip, .cond, .block, .loop, .exit, .ret⟩
def rS {τ : Type} (a : Alg τ) (ns : List τ) : Nat → Nat → List Nat → Zr (Nat × τ)
  | 0, _, _ => none
  | f + 1, l, s => (rN s).bind fun (n, s) => match n with
    | 0 => (rL rN s).bind fun (o, s) => (rN s).bind fun (n, s) => (Yga n l s).bind fun ((l, i), s) => (rL rN s).bind fun (c, s) => (rL rN s).bind fun (b, s) => some ((l, a.rg o i c b), s)
    | 1 => (rN s).bind fun (n, s) => (rOt 1000 l s).bind fun ((l, t), s) => (rL rN s).bind fun (c, s) => (rL rN s).bind fun (b, s) => some ((l, a.rgT n t c b), s)
    | 2 => (rS a ns f l s).bind fun ((l, x), s) => (rS a ns f l s).bind fun ((l, y), s) => some ((l, a.seq x y), s)
    | 3 => some ((l, a.skip), s)
    | 4 => (rA s).bind fun (c, s) => (rS a ns f l s).bind fun ((l, x), s) => (rS a ns f l s).bind fun ((l, y), s) => some ((l, a.cond c x y), s)
    | 5 => (rN s).bind fun (n, s) => (rS a ns f l s).bind fun ((l, x), s) => some ((l, a.block n x), s)
    | 6 => (rL rN s).bind fun (n, s) => (rS a ns f l s).bind fun ((l, x), s) => some ((l, a.loop n x), s)
    | 7 => (rN s).bind fun (n, s) => some ((l, a.exit n), s)
    | 8 => some ((l, a.ret), s)
    | 10 => (rN s).bind fun (n, s) => some ((l, ns.getD n a.skip), s)
    | _ => none
def zA {τ : Type} (a : Alg τ) (ns : List τ) (n : Nat) : τ := match rS a ns 1000 0 (Ygs 20000 n) with
  | some ((_, x), _) => x
  | none => a.skip
def zS : List S → Nat → S := zA Yhj
def zL (fs : List Nat) : List S2 → Nat → S2 := zA (Yhi fs)
end Go.Ab
/- The abstract statements that stand for the code of these functions, written by a program from the translation; that they do is checked by the kernel. No condition. -/
namespace Go.Proofs.YtmapdjjigmkbfaaGreatDoor
open Go Go.Ab
set_option maxRecDepth 100000
def n20 : Nat := 0x12001818c7780ba27888607c30783817bd28118105ef480460417bd1c118105ef5d000b9c6c82c005bf5a0096de2c000200b2892071590182865030030000800c00030000c0180159e4bb815070146655d579654203838504404704659f2400020092071444c04881940c00c00020030000c000300600567926e04e1c03939513de40f080e0e1011011c11907c90000801c51033471940c30c30c31801410057b922e3000430c30c30c600504028304635f1000020051030c0b8008fe1104fe1101d12f100002
def X9r : S := zS [] n20
theorem Yfh : Xx Tryz.prog 20 3 X9r [.t 6] = true := by kernel_rfl
def n40 : Nat := 0x480051022c02857812470091c8978d870e4e0d04018004108514220000200204202e0000ed15e01d0ef0c0002
def X9w : S := zS [] n40
theorem Yfm : Xx Tryz.prog 40 2 X9w [.t 4, .t 5] = true := by kernel_rfl
def n56 : Nat := 0x1200144081b867a9106504046a9f0c00020c800510202e19ea041941011810c00029c4027102981b97200ba56c8017f642416fd8dc0b3e0e05bf620450416fd85f14605bf6000189f05bf5e00181f05bf4204675f05bf4410486005bf5d0410816fd08001e8016fd680017f400ed6500c05fd600041017f441040805fd580541b9121424047d4d20b2e0e011f4404604047d081181011f5000f24541e6585d65544d240d44f38c2ca2481c61440c20406400820051020ce19e3441940461c018e94c1de2c91c3c7838a0010430c308800104308208204621f2c00020040c20c0b800c00c00020030000c00030060056794013f84407b90ef100002
def Yaa : S := zS [] n56
theorem Yfv : Xx Tryz.prog 56 2 Yaa [.c 4 6 true, .t 5] = true := by kernel_rfl
def n57 : Nat := 0x1200181078b07780e2cc2c2c3dec001076b030c2d6ccec146d2c001d9fcac001d1fbec00106eb030c2b6cac51acb0006e7ea001b1f144135831b010420c0032804104b60a410420c002a8124503ce34c2871851022c9203040480083200181a077a794b0e60010451040a40010441049601800025840161440c48d77a206e7c8043b612c301ff600010407fd14410201ff5e01d06e688043b5c2c301af5b0010406bd10410201af590020ed60c0d7001044000620380002200181547794482d383930010451450910010441454a018000234400d1440c440e7880ed3cb0ce0010440003e010000220018102e1de0400021c40071440c430878b24c0ca0010450000880010440002601800020050801440c302e0026794416794407b912f100002
def Yab : S := zS [] n57
theorem Yfw : Xx Tryz.prog 57 3 Yab [.t 6] = true := by kernel_rfl
def n71 : Nat := 0x480051022c02857812470091c8eb8d870f9e0d04018004108208220000200204202e0000ed15e01d0ef0c0002
def Yad : S := zS [] n71
theorem Yfy : Xx Tryz.prog 71 2 Yad [.t 4, .t 5] = true := by kernel_rfl
def Xxn : Nat := 0x12001c6081b8034778639e0c00020c800718202e0000ed1de08000230400c182003b4b34318c782000082
def n92 : Nat := 0x100a00604a1de248085e4d1440801b971c0001000020051000c0b80003b400894410fa16f100002
def Yaf : S := zS [(zS [] Xxn)] n92
theorem Yf0 : Xx Tryz.prog 92 3 Yaf [.t 6, .t 7] = true := by kernel_rfl
def Xxo : Nat := 0x10092070444ca7820ed2405210800032001014857850020000911004492071411903cb0c100e0010460003e01000020092071850463461142c67800400c0002002100147e07b8c0440491c41890060000811420070ca10200a2481c114824d2e1040002
def n94 : Nat := 0x1200101043b457810000802892070441801402481c11000ed00710021e0c00020800400800ed15e040002
def Yah : S := zS [(zS [] Xxo)] n94
theorem Yf2 : Xx Tryz.prog 94 2 Yah [.t 4] = true := by kernel_rfl
def Yey : Nat := 0x4800718206e21eb6c18652cb01181ac1042aa92c6080a000419c41029a51860409000418c20820c002480d0000832001c6080b887a21865060460430000a11008460c2045801b9621f5d00c05bd784016f5d0010405bd704102016f5b6861805bd040016f590010405bd602082016f430000805bd080016f5501406e488003b53343012f420004bd440401b8a20f2d00c02bd38400af4d0010402bd30208200af430000802bd04000af490000ed20d0c101a0000820060c204402e0030030000800c00030000c0180159e47b807b912f0c0002
def Xz5 : S := zS [] Yey
theorem X6j : Xx Tryz.prog 105 3 Xz5 [.c 6 6 true, .t 7] = true := by kernel_rfl
def Yez : Nat := 0x4800405615e5510905ea3cd00115f47a00de4eb1411300155f0c11927ce00141f4810420800138030003e02ca2430081c40861412c008320010102e15e04000230400c0c20cb06e208203b4a3c3008f4900104023d0c0002008f470020ed18d0c500104300008800008200308202e0016794407b90ef0c0002
def Xz6 : S := zS [] Yez
theorem X6k : Xx Tryz.prog 106 2 Xz6 [.t 4] = true := by kernel_rfl
def Ye0 : Nat := 0x4800406515e02e91b2020ed8cb0c16fd88004105bf611040816fd81e14605bf5f0010416fd0c30c205bf5d0010416fd70104205bf420000816fd68002e65221850d0c14bd5c4052f560010414bd541042052f420000814bd4c0041052f430c30814bd44002e40d2000ed3d00c137d38004104df430c308137d30002e2c820000000080000000003f0ed28e0c123d240041048f4310408123d1c0083b464031400410c410288000200308202e00137a4407b90ef0c0002
def Xz7 : S := zS [] Ye0
theorem X6l : Xx Tryz.prog 107 2 Xz7 [.t 4] = true := by kernel_rfl
def Xp5 : Nat := 0x4034c04011939e083b4d01a8420000c8004040b8578100009810060d3010055d33035800587d200151f55404614005579140118500045e2481c318510204024008034c1410053c678d0020000811420070ce10200e34c04014c34d3e1040002
def Ybj : Nat := 0x120010106e15e04000200a34c04010600500d301004003b402c400c7830000820c8004040b8578100008a10028100324730320404018400778500008200100202e15e040002
def Xz8 : S := zS [(zS [] Xp5)] Ybj
theorem X6m : Xx Tryz.prog 108 2 Xz8 [.t 4] = true := by kernel_rfl
def Xp6 : Nat := 0x12001c6081b8034778639e0c00020c800718202e0000ed1de08000230400c182003b4b34318c782000082
def Ybk : Nat := 0x100a00604a1de24808fe4d14408043971c0001000020051000c0b80003b4008944163a16f100002
def X0e : S := zS [(zS [] Xp6)] Ybk
theorem X6p : Xx Tryz.prog 113 3 X0e [.t 6, .t 7] = true := by kernel_rfl
def Xp7 : Nat := 0x4320010144578549e080002404
def Xp8 : Nat := 0x4020704011225e083b48013842000
def Xi7 : Nat := 0x104a00a0102071410063c12cc3810c134c0c614000004c7860000802071410052867880020000811420070c910200920704014720d2a1040002
def Ybl : Nat := 0x1200101043b457810000802881c10041801402070401000ed0061001de0c00020800400800ed15e040002
def X0g : S := zS [(zS [(zS [] Xp7), (zS [] Xp8)] Xi7)] Ybl
theorem X6r : Xx Tryz.prog 125 2 X0g [.t 4] = true := by kernel_rfl
def Ye2 : Nat := 0x120010100915e1412072ca84404604522a0810800497c300915e1412072c31010800410c10860453020820c10c10410400410011810800c204302e000ef812f080002
def X0h : S := zS [] Ye2
theorem X6s : Xx Tryz.prog 126 3 X0h [.t 4] = true := by kernel_rfl
def Ye3 : Nat := 0x4800510206e19e538b041144f8b034b8b020800c000300008008400a1c0478b00041438b020823f8b0ee2c106180378b00041338b060422f8b0500ce1e3000020c800510202e19e2b8b041141011010c0002278b04009e07184005238b01b84e2c207e2c178b0c0c0138f46e2c001040138f430c3080138f47000138f43e2c002e2c2450f8788000082007185103006078b06780e2c21e0681c0a01e25deca5edacd2cb2c0d1e4ed6c001ddfcec001072b02082c6cc2c13392fb000717eb046b5f0c1076806c9ebac1810adb0502e7aa0000a9140a9e51349140f38d2ca2470cc2061440810140020c800510202e19e9c41141011010c00029840261840c016506e848922303021f6300104087d0c2082021f4600087d800003b5f3431a078800008200610300478779d6c29b839c00179f68005c7c30007606460426050197881c6143102040200083200144080b867971045040440430000961005840c011506e488003b54303012f530010404bd0c4102012f5101006e3083c900cf4e06738033d34004100cf4304108033d2c02892419ce2000410c000980f0000820040c00c0b800030000c000200210014fe1006612f0c0002
def X0i : S := zS [] Ye3
theorem X6t : Xx Tryz.prog 127 2 X0i [.c 4 4 true, .t 5] = true := by kernel_rfl
def Ye4 : Nat := 0x1200081783780b9d688200000f43b5c38305af5b0010416bd04410205af59000b98548003b57403055f5600104157d044102055f54000b93408003b522c3050f5100104143d0430c2050f4f000b8e2c8043b4d2c304bf4c0010412fd04208204bf4a000b8918802f20b0c11bd1c0041046f410410811bd14002f10b0c300104100009d00008004102e000991080002
def X0j : S := zS [] Ye4
theorem X6u : Xx Tryz.prog 128 1 X0j [.t 2] = true := by kernel_rfl
def Xp9 : Nat := 0x4320010144578549e080002404
def Xqa : Nat := 0x4020704011225e083b48013842000
def Xi8 : Nat := 0x104a00a0102071410063c12cc38118134c18614000004c7860000802071410052867880020000811420070c910200920704014720d2a1040002
def Ybm : Nat := 0x1200101043b457810000802881c10041801402070401000ed0061001de0c00020800400800ed15e040002
def X0n : S := zS [(zS [(zS [] Xp9), (zS [] Xqa)] Xi8)] Ybm
theorem X6y : Xx Tryz.prog 135 2 X0n [.t 4] = true := by kernel_rfl
def Ye7 : Nat := 0x120010100915e1412072ca84404604522a0810800497c300915e1412072c31010800410c10860453020820c11810410400410011810800c204302e0002f812f080002
def X0o : S := zS [] Ye7
theorem X6z : Xx Tryz.prog 136 3 X0o [.t 4] = true := by kernel_rfl
def Ye8 : Nat := 0x12001c609a0191de0581c06075e1e765838393420150010541040934861810110010430824a03000020c800718202e0000ed1de0800024040100c20443c1b8a20e2d00c02bd34400af4c0010402bd0c208200af410002bd240003b483430402400020800c204302e0000ed1de01d12f0c0002
def X0p : S := zS [] Ye8
theorem X60 : Xx Tryz.prog 137 3 X0p [.t 6, .t 7] = true := by kernel_rfl
def Ye9 : Nat := 0x1200101905780ba37c8003b622c305ff611017fd80004105ff421450817fd78002e75921c6cd0c167d040059f5a00104167d084102059f58000b97508043b56403054f5500104153d084102054f53000b923c8200000f43b5138304ff500010413fd08208204ff4e000b8d20830a383048f4b00104123d082082048f4900104123d081042048f470000ed1900c50010420410a1000080081080b857806790ef080002
def X0q : S := zS [] Ye9
theorem X61 : Xx Tryz.prog 147 2 X0q [.t 4] = true := by kernel_rfl
def Yfa : Nat := 0x12001015c5780b96488003b552c3052f541014bd4c0041052f421450814bd44002e40d2010ed3cb0c137d38004104df4210408137d30002e2c821ffbc0ed28b0c123d240041048f4208208123d1c0003b462c3140041081042500002002040b857806790ef080002
def X0r : S := zS [] Yfa
theorem X62 : Xx Tryz.prog 148 2 X0r [.t 4] = true := by kernel_rfl
def Yfb : Nat := 0x12001015c5780b96488003b552c3052f541014bd4c0041052f421450814bd44002e40d2010ed3cb0c137d38004104df4210408137d30002e2c820007ffbd0ed28b0c123d240041048f4208208123d1c0003b462c3140041081042500002002040b857806790ef080002
def X0s : S := zS [] Yfb
theorem X63 : Xx Tryz.prog 149 2 X0s [.t 4] = true := by kernel_rfl
def Yfc : Nat := 0x1200101985780ba58889017f93818bd8c0041062f421450818bd84002e81c2200ed7ce0c173d78405cf5d00104173d08514205cf5b000b9a588083b59403056f581015bd5c0041056f421450815bd54002e5112010ed4cb0c147d480041051f4210408147d40002e3c820e28b0c123d083b4d043048f4c10123d2c0041048f4214508123d240041048f4208208123d1c0003b462c31400410810428c0002002040b857806790ef080002
def X0z : S := zS [] Yfc
theorem X64 : Xx Tryz.prog 150 2 X0z [.t 4] = true := by kernel_rfl
def Xqb : Nat := 0x100b2890c450c7820ed2c00c200000b2890c406e4d2002580ec50034de0c000320008102e0de0400024440112ca2450c640f00004009574500341e0c00020802ca2450c538678d00104b2411830000811420070cc10200c2ca24314a2cd361040002
def Ybn : Nat := 0x48002041b8378100008028b2890c41801402ca2431000ed00910029e0c00020800c008811e1c151d18400778400008000102e0de040002
def X00 : S := zS [(zS [] Xqb)] Ybn
theorem X65 : Xx Tryz.prog 151 1 X00 [.t 2] = true := by kernel_rfl
def Xqc : Nat := 0x12001c6081b8034778639e0c00020c800718202e0000ed1de08000230400c182003b4b34318c782000082
def Ybo : Nat := 0x100a00604a1de2480aee4d144080bf971c0001000020051000c0b80003b400894411bb16f100002
def X01 : S := zS [(zS [] Xqc)] Ybo
theorem X66 : Xx Tryz.prog 152 3 X01 [.t 6, .t 7] = true := by kernel_rfl
def Xqd : Nat := 0x4320010144578549e080002404
def Xqe : Nat := 0x4020704011225e083b48013842000
def Xi9 : Nat := 0x104a00a0102071410063c12cc3812c134c2c614000004c7860000802071410052867880020000811420070c910200920704014720d2a1040002
def Ybp : Nat := 0x1200101043b457810000802881c10041801402070401000ed0061001de0c00020800400800ed15e040002
def X03 : S := zS [(zS [(zS [] Xqd), (zS [] Xqe)] Xi9)] Ybp
theorem X68 : Xx Tryz.prog 166 2 X03 [.t 4] = true := by kernel_rfl
def Yfe : Nat := 0x120010100915e1412072ca84404604522a0810800497c300915e1412072c31010800410c10860453020820c12c10410400410011810800c204302e00073912f080002
def X04 : S := zS [] Yfe
theorem X69 : Xx Tryz.prog 167 3 X04 [.t 4] = true := by kernel_rfl
def n93 : Nat := 0x480020440de0c00410400020c0002001040bc003be11080002
def Yag : S := zS [] n93
theorem Yf1 : Xx Tryz.prog 93 1 Yag [.t 2] = true := by kernel_rfl
def Ye1 : Nat := 0x480020440de0c00410400020c0002001040bc000be11080002
def X0f : S := zS [] Ye1
theorem X6q : Xx Tryz.prog 114 1 X0f [.t 2] = true := by kernel_rfl
def Yfd : Nat := 0x480020440de0c00410400020c0002001040bc001ce51080002
def X02 : S := zS [] Yfd
theorem X67 : Xx Tryz.prog 153 1 X02 [.t 2] = true := by kernel_rfl
def Ye6 : Nat := 0x12000010401547b9d84779d83739d826f9d81108208208140282000080001205045c7a06e040002
def X0l : S := zS [] Ye6
theorem X6w : Xx Tryz.prog 133 0 X0l [.c 0 5 true] = true := by kernel_rfl
end Go.Proofs.YtmapdjjigmkbfaaGreatDoor
/- The same statements with their regions folded into expressions, printed by the fold itself; that they are that is checked by the kernel. No condition. -/
namespace Go.Proofs.YtmapdjjigmkbfaaGreatDoor
open Go Go.Ab
set_option maxRecDepth 100000
def Ydv : S2 := zL [] [] n20
def Ygw := by
 have h := Eq.refl Ydv
 conv at h => rhs; cbv
 exact h
theorem Yhw : X9r.lift [] = some Ydv := by kernel_rfl
def Yd3 : S2 := zL [] [] n40
def Yg1 := by
 have h := Eq.refl Yd3
 conv at h => rhs; cbv
 exact h
theorem Yh4 : X9w.lift [] = some Yd3 := by kernel_rfl
def Yeh : S2 := zL [] [] n56
def Yg7 := by
 have h := Eq.refl Yeh
 conv at h => rhs; cbv
 exact h
theorem Yid : Yaa.lift [] = some Yeh := by kernel_rfl
def Yei : S2 := zL [] [] n57
def X3d := by
 have h := Eq.refl Yei
 conv at h => rhs; cbv
 exact h
theorem Yie : Yab.lift [] = some Yei := by kernel_rfl
def Yek : S2 := zL [] [] n71
def Yg8 := by
 have h := Eq.refl Yek
 conv at h => rhs; cbv
 exact h
theorem Yig : Yad.lift [] = some Yek := by kernel_rfl
def Xi0 : S2 := zL [] [] Xxn
def Xye := by
 have h := Eq.refl Xi0
 conv at h => rhs; cbv
 exact h
def Yem : S2 := zL [] [Xi0] n92
def Yha := by
 have h := fun (a : S2) => Eq.refl (zL [] [a] n92)
 conv at h => intro a; rhs; cbv
 have e : Yem = _ := h Xi0
 exact e
theorem Yij : Yaf.lift [] = some Yem := by kernel_rfl
def Xi1 : S2 := zL [] [] Xxo
def Xnr := by
 have h := Eq.refl Xi1
 conv at h => rhs; cbv
 exact h
def Yeo : S2 := zL [] [Xi1] n94
def Yhc := by
 have h := fun (a : S2) => Eq.refl (zL [] [a] n94)
 conv at h => intro a; rhs; cbv
 have e : Yeo = _ := h Xi1
 exact e
theorem Yil : Yah.lift [] = some Yeo := by kernel_rfl
def X5g : S2 := zL [] [] Yey
def Xnb := by
 have h := Eq.refl X5g
 conv at h => rhs; cbv
 exact h
theorem Yar : Xz5.lift [] = some X5g := by kernel_rfl
def X5h : S2 := zL [] [] Yez
def Xlo := by
 have h := Eq.refl X5h
 conv at h => rhs; cbv
 exact h
theorem Yas : Xz6.lift [] = some X5h := by kernel_rfl
def X5i : S2 := zL [] [] Ye0
def Xlp := by
 have h := Eq.refl X5i
 conv at h => rhs; cbv
 exact h
theorem Yat : Xz7.lift [] = some X5i := by kernel_rfl
def Xdx : S2 := zL [] [] Xp5
def Xjn := by
 have h := Eq.refl Xdx
 conv at h => rhs; cbv
 exact h
def X5j : S2 := zL [] [Xdx] Ybj
def X3u := by
 have h := fun (a : S2) => Eq.refl (zL [] [a] Ybj)
 conv at h => intro a; rhs; cbv
 have e : X5j = _ := h Xdx
 exact e
theorem Yau : Xz8.lift [] = some X5j := by kernel_rfl
def Xd2 : S2 := zL [] [] Xp6
def Xsj := by
 have h := Eq.refl Xd2
 conv at h => rhs; cbv
 exact h
def X5m : S2 := zL [] [Xd2] Ybk
def X8s := by
 have h := fun (a : S2) => Eq.refl (zL [] [a] Ybk)
 conv at h => intro a; rhs; cbv
 have e : X5m = _ := h Xd2
 exact e
theorem Yax : X0e.lift [] = some X5m := by kernel_rfl
def Xd4 : S2 := zL [] [] Xp7
def Xjp := by
 have h := Eq.refl Xd4
 conv at h => rhs; cbv
 exact h
def Xd5 : S2 := zL [] [] Xp8
def Xsk := by
 have h := Eq.refl Xd5
 conv at h => rhs; cbv
 exact h
def Xd3 : S2 := zL [] [Xd4, Xd5] Xi7
def Xjo := by
 have h := fun (a b : S2) => Eq.refl (zL [] [a, b] Xi7)
 conv at h => intro a b; rhs; cbv
 have e : Xd3 = _ := h Xd4 Xd5
 exact e
def X5o : S2 := zL [] [Xd3] Ybl
def X8u := by
 have h := fun (a : S2) => Eq.refl (zL [] [a] Ybl)
 conv at h => intro a; rhs; cbv
 have e : X5o = _ := h Xd3
 exact e
theorem Yaz : X0g.lift [] = some X5o := by kernel_rfl
def X5p : S2 := zL [] [] Ye2
def X8v := by
 have h := Eq.refl X5p
 conv at h => rhs; cbv
 exact h
theorem Ya0 : X0h.lift [] = some X5p := by kernel_rfl
def X5q : S2 := zL [] [] Ye3
def X8w := by
 have h := Eq.refl X5q
 conv at h => rhs; cbv
 exact h
theorem Ya1 : X0i.lift [] = some X5q := by kernel_rfl
def X5r : S2 := zL [] [] Ye4
def Xhg := by
 have h := Eq.refl X5r
 conv at h => rhs; cbv
 exact h
theorem Ya2 : X0j.lift [] = some X5r := by kernel_rfl
def Xd7 : S2 := zL [] [] Xp9
def Xjr := by
 have h := Eq.refl Xd7
 conv at h => rhs; cbv
 exact h
def Xd8 : S2 := zL [] [] Xqa
def Xsl := by
 have h := Eq.refl Xd8
 conv at h => rhs; cbv
 exact h
def Xd6 : S2 := zL [] [Xd7, Xd8] Xi8
def Xjq := by
 have h := fun (a b : S2) => Eq.refl (zL [] [a, b] Xi8)
 conv at h => intro a b; rhs; cbv
 have e : Xd6 = _ := h Xd7 Xd8
 exact e
def X5v : S2 := zL [] [Xd6] Ybm
def X8z := by
 have h := fun (a : S2) => Eq.refl (zL [] [a] Ybm)
 conv at h => intro a; rhs; cbv
 have e : X5v = _ := h Xd6
 exact e
theorem Ya6 : X0n.lift [] = some X5v := by kernel_rfl
def X5w : S2 := zL [] [] Ye7
def X80 := by
 have h := Eq.refl X5w
 conv at h => rhs; cbv
 exact h
theorem Ya7 : X0o.lift [] = some X5w := by kernel_rfl
def X5x : S2 := zL [] [] Ye8
def X3v := by
 have h := Eq.refl X5x
 conv at h => rhs; cbv
 exact h
theorem Ya8 : X0p.lift [] = some X5x := by kernel_rfl
def X5y : S2 := zL [] [] Ye9
def X81 := by
 have h := Eq.refl X5y
 conv at h => rhs; cbv
 exact h
theorem Ya9 : X0q.lift [] = some X5y := by kernel_rfl
def X5z : S2 := zL [] [] Yfa
def X82 := by
 have h := Eq.refl X5z
 conv at h => rhs; cbv
 exact h
theorem Yba : X0r.lift [] = some X5z := by kernel_rfl
def X50 : S2 := zL [] [] Yfb
def X83 := by
 have h := Eq.refl X50
 conv at h => rhs; cbv
 exact h
theorem Ybb : X0s.lift [] = some X50 := by kernel_rfl
def X51 : S2 := zL [] [] Yfc
def Xlq := by
 have h := Eq.refl X51
 conv at h => rhs; cbv
 exact h
theorem Ybc : X0z.lift [] = some X51 := by kernel_rfl
def Xd9 : S2 := zL [] [] Xqb
def Xjs := by
 have h := Eq.refl Xd9
 conv at h => rhs; cbv
 exact h
def X52 : S2 := zL [] [Xd9] Ybn
def X84 := by
 have h := fun (a : S2) => Eq.refl (zL [] [a] Ybn)
 conv at h => intro a; rhs; cbv
 have e : X52 = _ := h Xd9
 exact e
theorem Ybd : X00.lift [] = some X52 := by kernel_rfl
def Xea : S2 := zL [] [] Xqc
def Xsm := by
 have h := Eq.refl Xea
 conv at h => rhs; cbv
 exact h
def X53 : S2 := zL [] [Xea] Ybo
def X85 := by
 have h := fun (a : S2) => Eq.refl (zL [] [a] Ybo)
 conv at h => intro a; rhs; cbv
 have e : X53 = _ := h Xea
 exact e
theorem Ybe : X01.lift [] = some X53 := by kernel_rfl
def Xec : S2 := zL [] [] Xqd
def Xju := by
 have h := Eq.refl Xec
 conv at h => rhs; cbv
 exact h
def Xed : S2 := zL [] [] Xqe
def Xsn := by
 have h := Eq.refl Xed
 conv at h => rhs; cbv
 exact h
def Xeb : S2 := zL [] [Xec, Xed] Xi9
def Xjt := by
 have h := fun (a b : S2) => Eq.refl (zL [] [a, b] Xi9)
 conv at h => intro a b; rhs; cbv
 have e : Xeb = _ := h Xec Xed
 exact e
def X55 : S2 := zL [] [Xeb] Ybp
def X87 := by
 have h := fun (a : S2) => Eq.refl (zL [] [a] Ybp)
 conv at h => intro a; rhs; cbv
 have e : X55 = _ := h Xeb
 exact e
theorem Ybg : X03.lift [] = some X55 := by kernel_rfl
def X56 : S2 := zL [] [] Yfe
def X88 := by
 have h := Eq.refl X56
 conv at h => rhs; cbv
 exact h
theorem Ybh : X04.lift [] = some X56 := by kernel_rfl
def Yen : S2 := zL [] [] n93
def Yhb := by
 have h := Eq.refl Yen
 conv at h => rhs; cbv
 exact h
theorem Yik : Yag.lift [] = some Yen := by kernel_rfl
def X5n : S2 := zL [] [] Ye1
def X8t := by
 have h := Eq.refl X5n
 conv at h => rhs; cbv
 exact h
theorem Yay : X0f.lift [] = some X5n := by kernel_rfl
def X54 : S2 := zL [] [] Yfd
def X86 := by
 have h := Eq.refl X54
 conv at h => rhs; cbv
 exact h
theorem Ybf : X02.lift [] = some X54 := by kernel_rfl
def X5t : S2 := zL [] [] Ye6
def X8y := by
 have h := Eq.refl X5t
 conv at h => rhs; cbv
 exact h
theorem Ya4 : X0l.lift [] = some X5t := by kernel_rfl
end Go.Proofs.YtmapdjjigmkbfaaGreatDoor
/- Further equations of folded expressions; loops that count. Over any program; no condition. -/
namespace Go.Ab
open Go
def Xua (n z : Nat) (ag : Bool) (u v : V) : Prop := Xh5 n z ag (fun w => w = Xl7 u v) u v
section
variable (T : Tab) (sl : Xb) (ob : Objs) (x y : E) (n z : Nat) (b : Bool) (ty : KT)
@[simp] theorem v_eqD : E.val T sl ob (.b (.eqD ty b (.t 0) (.t 1)) x y) = X3f b (x.val T sl ob) (y.val T sl ob) := by simp [E.val]
@[simp] theorem o_eqD : E.ok T sl ob (.b (.eqD ty b (.t 0) (.t 1)) x y) = (x.ok T sl ob ∧ y.ok T sl ob ∧ X4j ty (x.val T sl ob) (y.val T sl ob)) := by simp [E.ok]
@[simp] theorem v_aix : E.val T sl ob (.b (.aix n z b (.t 0) (.t 1)) x y) = Xl7 (x.val T sl ob) (y.val T sl ob) := by simp [E.val]
@[simp] theorem o_aix : E.ok T sl ob (.b (.aix n z b (.t 0) (.t 1)) x y) = (x.ok T sl ob ∧ y.ok T sl ob ∧ Xua n z b (x.val T sl ob) (y.val T sl ob)) := by simp [E.ok, C.ok, C.val, Xua]
@[simp] theorem idxVS_d (xs : List D) (k : IntKind) (i : Int) : Xua n z b (.d (.agg xs)) (.d (.int k i)) = ((0 ≤ i ∧ i < n) ∧ xs.length = n ∧ ∀ x ∈ xs, x.sz = z ∧ x.isAgg = b) := by
 simp [Xua, Xh5]
end
theorem ALoop.upto {keep : List Nat} {body : Z5 → Xb → Objs → Prop} {Q : Z5} {sl : Xb} {ob : Objs} (n : Nat) (S : Nat → Xb) (O : Nat → Objs) (I : Nat → Prop) (h0 : I 0) (hs : Xd sl keep = S 0) (ho : ob = O 0)
  (step : ∀ k, k < n → I k → ∀ R : Z5, (∀ kp sl' ob', I (k + 1) → Xd sl' keep = S (k + 1) → Yt (young (fresh (O k)) kp) ob' = O (k + 1) → U4 (young (fresh (O k)) kp) (S (k + 1)) = true → noMenO (young (fresh (O k)) kp) (O (k + 1)) = true → R .normal sl' ob') →
   (∀ n sl' ob', Q (.exit n) sl' ob' → R (.exit n) sl' ob') → (∀ sl' ob', Q .ret sl' ob' → R .ret sl' ob') → (∀ v sl' ob', Q (.panic v) sl' ob' → R (.panic v) sl' ob') → body R (S k) (O k))
  (done : I n → ∀ R : Z5, (∀ n sl' ob', Q (.exit n) sl' ob' → R (.exit n) sl' ob') → (∀ sl' ob', Q .ret sl' ob' → R .ret sl' ob') → (∀ v sl' ob', Q (.panic v) sl' ob' → R (.panic v) sl' ob') → body R (S n) (O n)) : ALoop keep body Q sl ob := by
 refine ALoop.go (ι := Nat) S O (fun k => k ≤ n ∧ I k) (fun k => n - k) 0 ⟨Nat.zero_le _, h0⟩ hs ho fun k ⟨hk, hi⟩ R rn re rr rp => ?_
 rcases Nat.lt_or_ge k n with h | h
 ·exact step k h hi R (fun kp sl' ob' h1 h2 h3 h4 h5 => rn kp (k + 1) sl' ob' ⟨h, h1⟩ (by omega) h2 h3 h4 h5) re rr rp
 ·obtain rfl : k = n := Nat.le_antisymm hk h
  exact done hi R re rr rp
end Go.Ab
/- The abstract statements that stand for the code of these functions, written by a program from the translation; that they do is checked by the kernel. No condition. -/
namespace Go.Proofs.YtmapdjjigmkbfaaGreatDoor
open Go Go.Ab
set_option maxRecDepth 100000
def Xw3 : Nat := 0x440c20c61440c200602db0cb2c00106b18115672a001067a4123b5abea68957250019dfa020828698e40410a314500000500e34c2ca2461481c40c20403800450070e01040c20e01851030801df74d0de61c0007000416c104268515b787000082
def X05 : S := zS [] Xw3
def Ycu : FSt := .pre (.rg [] [.op (some 2) (.alloc 55 (.nils)),
   .op (some 3) (.alloc 3 (.int .i64 0)),
   .op (some 4) (.alloc 45 (.int .i64 0))] [0, 2, 3, 4] [])
 (.pre (.seq (.rg [] [.op (some 7) (.c (.mv (.t 0))),
   .op (some 8) (.c (.lenS (.t 7))),
   .op (some 9) (.c (.bin .gtr (.t 8) (.int .i64 65536)))] [0, 2, 3, 4, 9] [])
 (.cond (.t 9) (.seq (.rg [] [.op none (.st 1 (.t 2) .nils),
   .op none (.st 1 (.t 3) (.int .i64 0)),
   .op none (.st 1 (.t 4) (.int .i64 2))] [2, 3, 4] [])
 (.ret)) (.skip)))
 (.dfr [.op (some 10) (.c (.mkf 43 [] [(.t 2), (.t 3), (.t 4)]))] [0, 2, 3, 4, 10] 10
 (.seq (.rg [] [.op (some 11) (.c (.mv (.t 0))),
   .op (some 12) (.pcall 44 []),
   .op (some 13) (.c (.bld [.str [], .int .i64 0, .agg (List.replicate 256 (.int .i64 0)), .nils] [(0, (.t 11)), (2, (.t 12))])),
   .op (some 14) (.box 130 (.t 13)),
   .op (some 5) (.mvg 59 4 (.t 14) (.t 14) [3])] [0, 2, 3, 4, 5] [2, 3, 4])
 (.seq (.rg [] [.op (some 15) (.c (.mv (.t 5))),
   .op (some 16) (.c (.mkf 45 [(.t 15)] [])),
   .op (some 17) (.c (.mv (.t 5))),
   .op (some 18) (.c (.mkf 46 [(.t 17)] [])),
   .op (some 19) (.c (.mv (.t 5))),
   .op (some 20) (.c (.mkf 47 [(.t 19)] [])),
   .op (some 21) (.c (.mv (.t 5))),
   .op (some 22) (.c (.mkf 48 [(.t 21)] [])),
   .op (some 23) (.c (.mv (.t 5))),
   .op (some 24) (.c (.mkf 49 [(.t 23)] [])),
   .op (some 25) (.c (.bld [.nilf, .nilf, .nilf, .nilf, .nilf] [(0, (.t 16)), (1, (.t 18)), (2, (.t 20)), (3, (.t 22)), (4, (.t 24))])),
   .op (some 6) (.alloc 131 (.agg (List.replicate 5 (.nilf)))),
   .op none (.st 5 (.t 6) (.t 25))] [0, 2, 3, 4, 5, 6] [2, 3, 4])
 (.seq (.block 0 (.loop [0, 2, 3, 4, 5, 6] X05))
 (.seq (.rg [] [.op (some 47) (.c (.mv (.t 5))),
   .op (some 48) (.c (.nilc (.t 47))),
   .op (some 49) (.c (.fldA 3 258 (.t 48))),
   .op (some 50) (.c (.ld 1 false (.t 49))),
   .op none (.st 1 (.t 2) (.t 50)),
   .op none (.st 1 (.t 3) (.int .i64 0)),
   .op none (.st 1 (.t 4) (.int .i64 0))] [2, 3, 4] [2, 3, 4])
 (.ret)))))))
theorem Yiu : Xl5 Tryz.prog 16 1 Ycu [.c 2 1 false, .c 3 1 false, .c 4 1 false] = true := by kernel_rfl
def Xw4 : Nat := 0x402481c411e29e083b4901f842000
def Xw5 : Nat := 0x402481c411c102d0d6c00411810420c00002481c4119102d0d601d4e5c00411820821000161005892071841840ed54b0d40010460005600c0002
def Xqf : Nat := 0x41280283009207184148e04b440b33410004840122481c6106003b513c31527820000820c8003082f390ed000bc37820000901004092071851073c9381c8e18110f7c30000820092071851063461142c67800c00030000800c0100143e07b8c0440491c41890060000811420070ca10200a2481c414824d2e1040002
def n17 : Nat := 0x12000c20800ed01f0de101da0ac30000802892071041801402481c41000ed00710021e0c00020801000831c20053b9401000080001003b4002f0de080002
def Ycv : S := zS [(zS [(zS [] Xw5), (zS [] Xw4)] Xqf)] n17
theorem Yiv : Xx Tryz.prog 17 1 Ycv [.t 2, .t 3] = true := by kernel_rfl
def Xxb : Nat := 0x100f3800f5b107820ed3c0da108000320008102e0de040002d2c100d0f380100bb3b25232b01ba820197d02ec6cac8028f70b01baeb0806bf7ae04b6fb0f0c0bbd10002ef6db0006bf68e04b6cb0d0c1afd10006bf6a000a3d1ba12da4c0c0a3d100028f6700197d003b662c3065f4300197d9008c91647920000803ce1440c01a219e841b9b200ba078801bf7ce84b5f38305ef440017bd74001bf4ae84b5c40301bf440006fd68002e65723ce44b58383057f440015fd5802b912d5500c459e3c000200f3840c015415e4d255c0c00137840000803ce0c011111e3c00800020450801c340408040f38010e3cd461040002
def n39 : Nat := 0x120008106e0de04000200a3ce0031801403ce003003b4035870039e0c000208320008102e0de04000230400c0022c1b88208e03b4a3c3008f4961c008f4000023d1c002f18b0c01de1c000208000102e0de040002
def X9v : S := zS [(zS [] Xxb)] n39
theorem Yfl : Xx Tryz.prog 39 1 X9v [.t 2] = true := by kernel_rfl
def Xxg : Nat := 0x4003ce43b42054441054c00054112784000
def Xo9 : List It := [.op (some 3) (.c (.mv (.t 6)))]
def Xwm : List Nat := [0, 1, 2, 3]
def n43 : Nat := 0x4300a0c01020401105430020003c400f10308100638914f7820000820051030810063403057812470093652ca78a003004e5d7032de1c00022040080c204014700e70321e080002
def X9z : S := zS [(zS [] Xxg)] n43
theorem Ybw : Xlv Tryz.prog 43 3 6 Xo9 X9z = true := by kernel_rfl
def Xxh : Nat := 0x1025923004ae67820ed9400c2000025923004203b6a054a40048ed6706a9e0c00009648c6005a077a70010658c11830000871421870e61020269648c016494d9e1040002
def Xxi : Nat := 0x101b69900485c7820ed6c00c200001b699004083b600547c0048ed670481e0c00006da64400578579d00105b6411830000851421070dc10201c6da64015a6cd761040002
def Xxj : Nat := 0x4044009749e083b510030800004400860ed58151500123b59c528e03b400c255e1000004420034c37910020000831420870d21020124400d40ed44d4e1040002
def Xxk : Nat := 0x401c009021e083b470030800001c00840ed3c150d00123b59c103b4e0542c0048ed670c2ba0ed00304028ae43b400c12de2000001c10032427870020000811420070c81020081c00f40ed1cd261040002
def n44 : Nat := 0x4800006cb0023b500048eed7c20000832a59230041861409648c01000ed02312249d7b812d3bce04b4d93812d322e04b4b2b812d280e44b499b812d20ee04b470b912d1a0e04b45fb812d11ae04b4363812d082ec4b41fba12d00f00400f041163c4400008208a6da64010610501b699004003b4064461275a12d0d412d09212d048e04b40100100004000100004004001159c4400008204a440086085011002003b5278100008200a1c0086005007002003b487810000820000400c023b0451f906e040002
def X90 : S := zS [(zS [] Xxk), (zS [] Xxj), (zS [] Xxi), (zS [] Xxh)] n44
theorem Yfp : Xx Tryz.prog 44 0 X90 [.c 0 256 true] = true := by kernel_rfl
def n45 : Nat := 0x1000195144e4b1000410c1042085003786000
def X91 : S := zS [] n45
theorem Yfq : Xx Tryz.prog 45 1 X91 [] = true := by kernel_rfl
def n46 : Nat := 0x10001880541c1042085083b450031000410c1042085003788000
def X92 : S := zS [] n46
theorem Yfr : Xx Tryz.prog 46 1 X92 [] = true := by kernel_rfl
def Xxl : Nat := 0x4001240e0eae0d45870200f0420ed0020030000c000200300400a08004004f7c6000
def n47 : Nat := 0x40283002042355304e4b2c00412810422450400411800081002020432380ed1cf0c661c0877830000820020421437840c2a38381040a7871c0400447c4000080041006e51040002
def X93 : S := zS [(zS [] Xxl)] n47
theorem Yfs : Xx Tryz.prog 47 1 X93 [] = true := by kernel_rfl
def Xxm : Nat := 0x100a2430811652de083b4a026842000
def Xqi : Nat := 0x100a0c02890c20459158c4e4b88004184104280504004118001f1007ca24308119e06e5c802e75a2005fda3812d70b0c16bd003b5b55c05af420016bd640017f400ed60f0c05fd100017f5600000000080000000003f0ed54f0c359e2c000200a2440c20465047933800d20d3728e04b5104340f55c1000803540ed0830ce78900008028910308118c15e2800800020450801c32c40802ca24308118928d321040002
def n48 : Nat := 0x4002aa260eae0da587020270840ed0020030000c000200300400a0c00400677c600000a2890c20451801402890c2045003b4021870225e0c00020800c2043003b400400020020421c3786142a38381040af871c0400467c4000080041006e51040002
def X94 : S := zS [(zS [(zS [] Xxm)] Xqi)] n48
theorem Yft : Xx Tryz.prog 48 1 X94 [] = true := by kernel_rfl
def n49 : Nat := 0x400020ed9560eae0d901183b400800c00030000800c01002a305e05a69c083b620038400637dd0017df64005b7e004109f14081e7010426c501c79800009714000001140f38d30810b2891c614308101100320001354151404108c1523c00d161cb78d900a8e12b0e00141f01178d04108c14000b2892071850c408100b0022c400b002bf0bf00af282b3838024115a70800129f1000467c70410861401de0c000208500378a2481c3185102040280082
def X95 : S := zS [] n49
theorem Yfu : Xx Tryz.prog 49 1 X95 [] = true := by kernel_rfl
def n50 : Nat := 0x48002040b83781000083200081b6c0de02eb2ca48003b6b2c3069f6a001041a7d042082069f68000ba79089abc3ac2ec2dc21c3cc2fc23c3dc2cc3bc29c28c1d6cfbc2bb838193d940041064f4104108193d8c0083b622c38587200010410418603c000278401e0427df7860ed10b821080002200081743780b9c648000000020000000000fc3b5b383059f5a00104167d042082059f58000b97508003b56403054f5500104153d042082054f53000bd22c344004104105280e00008f1003c40434107840ed10b461080002200081383780b8d288003b4c2c304af4b0010412bd04208204af490080673870010410412202400021440051010c619e083b442c7842000080140101083001041000082000082001040b80003e11080002
def X96 : S := zS [] n50
theorem ok50 : Xx Tryz.prog 50 1 X96 [.t 2] = true := by kernel_rfl
def n51 : Nat := 0x4800407115e0400020003900543c10421c534b04114f3000401000400520402800412410422050000002c0002001002141bf83400020000800400b115e040002
def X97 : S := zS [] n51
theorem ok51 : Xx Tryz.prog 51 2 X97 [.t 4] = true := by kernel_rfl
def n52 : Nat := 0x12001440b101215e4587010040000800413900543c104220534c04529d0402c0041281042245000000280002001002181bf83400020000800400b10000ed15e080002
def X98 : S := zS [] n52
theorem ok52 : Xx Tryz.prog 52 2 X98 [.t 4, .t 5] = true := by kernel_rfl
def n54 : Nat := 0x4800204d0de30715374b10a00131f1927050011df24104220500978404108314000c2ca2481031c614204030008000102f0de040002
def X99 : S := zS [] n54
theorem ok54 : Xx Tryz.prog 54 1 X99 [.t 2] = true := by kernel_rfl
def Xxs : Nat := 0x10050400dc19e083b5b0031400c00011401c368401a14100402e65121805230147d5d655c051f4500147d540041051f5400008147d4c5051f4000147d040051f5000f28d0ce61c3400413000022c500014b791000082
def n96 : Nat := 0x12001019857a50640606a7ea300195f7c00617c599e88104284502279e00009d14079e2ca2470c81851020402c00802850400c60050801410032467880010470410861401de14000200100202f15e040002
def Yaj : S := zS [(zS [] Xxs)] n96
theorem Yf4 : Xx Tryz.prog 96 2 Yaj [.t 4] = true := by kernel_rfl
def n97 : Nat := 0x4800305711e581b94206e84b552c3014f4000053d4c0481b8b2060ed44b0c02fd40004100bf4d3c123b59c00bf4e0820802fd30500bf400002fd04004100bf4a0040ed24b0c80010451c123b59c18208210500004004154000200100202e11e040002
def Yak : S := zS [] n97
theorem Yf5 : Xx Tryz.prog 97 2 Yak [.t 3] = true := by kernel_rfl
def n98 : Nat := 0x100069c0546c10425456580030805c00415810425450002400000800925015132bb0c22c544fa040f83d00010030000c000200300400504011210110138004134aec308c14000000b28920718510308100b0020040800c92815040c30880010470410861401de1800020040800c10f816f040002
def Yal : S := zS [] n98
theorem Yf6 : Xx Tryz.prog 98 3 Yal [] = true := by kernel_rfl
def n99 : Nat := 0x12000c12847860ed24b0c80010451c123b59c18208210500004004120000200100202e11e040002
def Yam : S := zS [] n99
theorem Yf7 : Xx Tryz.prog 99 2 Yam [.t 3] = true := by kernel_rfl
def Yew : Nat := 0x4800404715e185089e4e04000010000200100202e15e040002
def Xz3 : S := zS [] Yew
theorem X6h : Xx Tryz.prog 100 2 Xz3 [.t 4] = true := by kernel_rfl
def Yex : Nat := 0x120008110379412d0cc0c000300008000102e0de040002
def Xz4 : S := zS [] Yex
theorem X6i : Xx Tryz.prog 101 1 Xz4 [.t 2] = true := by kernel_rfl
def Ye5 : Nat := 0x4800405115e02e40a20f38b0c12bd04004af4d0402da7012bd3187012bd04004af400012bd2402064031d870100561c00038000200100202e15e040002
def X0k : S := zS [] Ye5
theorem X6v : Xx Tryz.prog 129 2 X0k [.t 4] = true := by kernel_rfl
end Go.Proofs.YtmapdjjigmkbfaaGreatDoor
/- The same statements with their regions folded into expressions, printed by the fold itself; that they are that is checked by the kernel. No condition. -/
namespace Go.Proofs.YtmapdjjigmkbfaaGreatDoor
open Go Go.Ab
set_option maxRecDepth 100000
def Xpq : S2 := zL [] [] Xw3
def Qf := by
 have h := Eq.refl Xpq
 conv at h => rhs; cbv
 exact h
def Ydt : FS2 := .pre (.rg [.op (some 2) (.alloc 55 .nils), .op (some 3) (.alloc 3 (.int .i64 0)), .op (some 4) (.alloc 45 (.int .i64 0))] [(0, (.a (.t 0))), (2, (.a (.t 2))), (3, (.a (.t 3))), (4, (.a (.t 4)))] [])
 (.pre (.seq (.rg [] [(0, (.a (.t 0))), (2, (.a (.t 2))), (3, (.a (.t 3))), (4, (.a (.t 4))), (9, (.b (.bin .gtr (.t 0) (.t 1)) (.u (.lenS (.t 0)) (.a (.t 0))) (.a (.int .i64 65536))))] [])
 (.cond (.t 9) (.seq (.rg [.op none (.st 1 (.t 2) .nils), .op none (.st 1 (.t 3) (.int .i64 0)), .op none (.st 1 (.t 4) (.int .i64 2))] [(2, (.a (.t 2))), (3, (.a (.t 3))), (4, (.a (.t 4)))] [])
 (.ret)) (.skip)))
 (.dfr [.op (some 10) (.c (.mkf 43 [] [(.t 2), (.t 3), (.t 4)]))] [(0, (.a (.t 0))), (2, (.a (.t 2))), (3, (.a (.t 3))), (4, (.a (.t 4))), (10, (.a (.t 10)))] 10
 (.seq (.rg [.op (some 12) (.pcall 44 []), .lt 11 [] (.a (.t 0)), .op (some 13) (.c (.bld [(.str []), (.int .i64 0), (.agg (List.replicate 256 (.int .i64 0))), .nils] [(0, (.t 11)), (2, (.t 12))])), .op (some 14) (.box 130 (.t 13)), .op (some 5) (.mvg 59 4 (.t 14) (.t 14) [3])] [(0, (.a (.t 0))), (2, (.a (.t 2))), (3, (.a (.t 3))), (4, (.a (.t 4))), (5, (.a (.t 5)))] [2, 3, 4])
 (.seq (.rg [.lt 15 [] (.a (.t 5)), .op (some 16) (.c (.mkf 45 [(.t 15)] [])), .lt 17 [] (.a (.t 5)), .op (some 18) (.c (.mkf 46 [(.t 17)] [])), .lt 19 [] (.a (.t 5)), .op (some 20) (.c (.mkf 47 [(.t 19)] [])), .lt 21 [] (.a (.t 5)), .op (some 22) (.c (.mkf 48 [(.t 21)] [])), .lt 23 [] (.a (.t 5)), .op (some 24) (.c (.mkf 49 [(.t 23)] [])), .op (some 25) (.c (.bld [.nilf, .nilf, .nilf, .nilf, .nilf] [(0, (.t 16)), (1, (.t 18)), (2, (.t 20)), (3, (.t 22)), (4, (.t 24))])), .op (some 6) (.alloc 131 (.agg [.nilf, .nilf, .nilf, .nilf, .nilf])), .op none (.st 5 (.t 6) (.t 25))] [(0, (.a (.t 0))), (2, (.a (.t 2))), (3, (.a (.t 3))), (4, (.a (.t 4))), (5, (.a (.t 5))), (6, (.a (.t 6)))] [2, 3, 4])
 (.seq (.block 0 (.loop [0, 2, 3, 4, 5, 6] Xpq))
 (.seq (.rg [.chk [] (.u (.ld 1 false (.t 0)) (.u (.fldA 3 258 (.t 0)) (.u (.nilc (.t 0)) (.a (.t 5))))), .lt 50 [] (.u (.ld 1 false (.t 0)) (.u (.fldA 3 258 (.t 0)) (.u (.nilc (.t 0)) (.a (.t 5))))), .op none (.st 1 (.t 2) (.t 50)), .op none (.st 1 (.t 3) (.int .i64 0)), .op none (.st 1 (.t 4) (.int .i64 0))] [(2, (.a (.t 2))), (3, (.a (.t 3))), (4, (.a (.t 4)))] [2, 3, 4])
 (.ret)))))))
theorem Yhu : Ycu.lift [] = some Ydt := by kernel_rfl
def Xii : S2 := zL [] [] Xw4
def Xc9 := by
 have h := Eq.refl Xii
 conv at h => rhs; cbv
 exact h
def Xij : S2 := zL [] [] Xw5
def Xnd := by
 have h := Eq.refl Xij
 conv at h => rhs; cbv
 exact h
def Xih : S2 := zL [] [Xij, Xii] Xqf
def Xhi := by
 have h := fun (a b : S2) => Eq.refl (zL [] [a, b] Xqf)
 conv at h => intro a b; rhs; cbv
 have e : Xih = _ := h Xij Xii
 exact e
def Ydu : S2 := zL [] [Xih] n17
def Ygv := by
 have h := fun (a : S2) => Eq.refl (zL [] [a] n17)
 conv at h => intro a; rhs; cbv
 have e : Ydu = _ := h Xih
 exact e
theorem Yhv : Ycv.lift [] = some Ydu := by kernel_rfl
def Xiq : S2 := zL [] [] Xxb
def Xx8 := by
 have h := Eq.refl Xiq
 conv at h => rhs; cbv
 exact h
def Yd2 : S2 := zL [] [Xiq] n39
def Yg0 := by
 have h := fun (a : S2) => Eq.refl (zL [] [a] n39)
 conv at h => intro a; rhs; cbv
 have e : Yd2 = _ := h Xiq
 exact e
theorem Yh3 : X9v.lift [] = some Yd2 := by kernel_rfl
def Xiu : S2 := zL [] [] Xxg
def Xya := by
 have h := Eq.refl Xiu
 conv at h => rhs; cbv
 exact h
def Xpu : List It2 := []
def Xpt : List (Nat × E) := [(0, (.a (.t 0))), (1, (.a (.t 1))), (2, (.a (.t 2))), (3, (.a (.t 6)))]
theorem Ydo : Qw [] Xwm [] Xo9 [] [] [] = some (Xpu, Xpt) := by kernel_rfl
def Yd6 : S2 := zL [] [Xiu] n43
def Yb3 := by
 have h := fun (a : S2) => Eq.refl (zL [] [a] n43)
 conv at h => intro a; rhs; cbv
 have e : Yd6 = _ := h Xiu
 exact e
theorem Ydm : X9z.lift [] = some Yd6 := by kernel_rfl
def Xpv : S2 := zL [] [] Xxh
def Xnn := by
 have h := Eq.refl Xpv
 conv at h => rhs; cbv
 exact h
def Xpw : S2 := zL [] [] Xxi
def Xno := by
 have h := Eq.refl Xpw
 conv at h => rhs; cbv
 exact h
def Xpx : S2 := zL [] [] Xxj
def Xnp := by
 have h := Eq.refl Xpx
 conv at h => rhs; cbv
 exact h
def Xpy : S2 := zL [] [] Xxk
def Xnq := by
 have h := Eq.refl Xpy
 conv at h => rhs; cbv
 exact h
def Yd7 : S2 := .seq (.rg [.op (some 0) (.alloc 127 (.agg (List.replicate 256 (.int .i64 0))))] [(0, (.a (.t 0)))] [])
 (.seq (.seq (.rg [] [(0, (.a (.t 0))), (7, (.a (.int .i64 0)))] [])
 (.block 0 (.loop [0, 7] Xpy)))
 (.seq (.seq (.rg [] [(0, (.a (.t 0))), (17, (.a (.int .i64 0)))] [])
 (.block 2 (.loop [0, 17] Xpx)))
 (.seq (.seq (.rg [.op (some 24) (.blo 5 1 [(.int .u8 0), (.int .u8 0), (.int .u8 0), (.int .u8 0)] [(0, (.int .u8 32)), (1, (.int .u8 9)), (2, (.int .u8 10)), (3, (.int .u8 13))]), .op (some 25) (.cvb (.t 24))] [(0, (.a (.t 0))), (25, (.a (.t 25))), (26, (.u (.lenL (.t 0)) (.a (.t 25)))), (27, (.a (.int .i64 0)))] [])
 (.block 4 (.loop [0, 25, 26, 27] Xpw)))
 (.seq (.seq (.rg [.op (some 34) (.blo 5 1 (List.replicate 15 (.int .u8 0)) [(0, (.int .u8 123)), (1, (.int .u8 125)), (2, (.int .u8 40)), (3, (.int .u8 41)), (4, (.int .u8 59)), (5, (.int .u8 44)), (6, (.int .u8 61)), (7, (.int .u8 35)), (8, (.int .u8 47)), (9, (.int .u8 60)), (10, (.int .u8 33)), (11, (.int .u8 45)), (12, (.int .u8 46)), (13, (.int .u8 58)), (14, (.int .u8 43))]), .op (some 35) (.cvb (.t 34))] [(0, (.a (.t 0))), (35, (.a (.t 35))), (36, (.u (.lenL (.t 0)) (.a (.t 35)))), (37, (.a (.int .i64 0)))] [])
 (.block 6 (.loop [0, 35, 36, 37] Xpv)))
 (.seq (.rg [.chk [] (.u (.ld 256 true (.t 0)) (.a (.t 0))), .lt 44 [] (.u (.ld 256 true (.t 0)) (.a (.t 0))), .op none (.st 256 (.t 0) (.t 44))] [(0, (.a (.t 0)))] [])
 (.ret))))))
theorem Yh7 : X90.lift [] = some Yd7 := by kernel_rfl
def Yd8 : S2 := zL [] [] n45
def Yg2 := by
 have h := Eq.refl Yd8
 conv at h => rhs; cbv
 exact h
theorem Yh8 : X91.lift [] = some Yd8 := by kernel_rfl
def Yd9 : S2 := zL [] [] n46
def Yg3 := by
 have h := Eq.refl Yd9
 conv at h => rhs; cbv
 exact h
theorem Yh9 : X92.lift [] = some Yd9 := by kernel_rfl
def Xiv : S2 := zL [] [] Xxl
def Xyb := by
 have h := Eq.refl Xiv
 conv at h => rhs; cbv
 exact h
def Yea : S2 := zL [] [Xiv] n47
def Yg4 := by
 have h := fun (a : S2) => Eq.refl (zL [] [a] n47)
 conv at h => intro a; rhs; cbv
 have e : Yea = _ := h Xiv
 exact e
theorem Yia : X93.lift [] = some Yea := by kernel_rfl
def Xix : S2 := zL [] [] Xxm
def Xyd := by
 have h := Eq.refl Xix
 conv at h => rhs; cbv
 exact h
def Xiw : S2 := zL [] [Xix] Xqi
def Xyc := by
 have h := fun (a : S2) => Eq.refl (zL [] [a] Xqi)
 conv at h => intro a; rhs; cbv
 have e : Xiw = _ := h Xix
 exact e
def Yeb : S2 := zL [] [Xiw] n48
def Yg5 := by
 have h := fun (a : S2) => Eq.refl (zL [] [a] n48)
 conv at h => intro a; rhs; cbv
 have e : Yeb = _ := h Xiw
 exact e
theorem Yib : X94.lift [] = some Yeb := by kernel_rfl
def Yec : S2 := zL [] [] n49
def Yg6 := by
 have h := Eq.refl Yec
 conv at h => rhs; cbv
 exact h
theorem Yic : X95.lift [] = some Yec := by kernel_rfl
def Yed : S2 := zL [39, 102] [] n50
def Et50 := by
 have h := Eq.refl Yed
 conv at h => rhs; cbv
 exact h
theorem lf50 : X96.lift [39, 102] = some Yed := by kernel_rfl
def Yee : S2 := zL [] [] n51
def Et51 := by
 have h := Eq.refl Yee
 conv at h => rhs; cbv
 exact h
theorem lf51 : X97.lift [] = some Yee := by kernel_rfl
def Yef : S2 := zL [] [] n52
def Et52 := by
 have h := Eq.refl Yef
 conv at h => rhs; cbv
 exact h
theorem lf52 : X98.lift [] = some Yef := by kernel_rfl
def Yeg : S2 := zL [] [] n54
def Et54 := by
 have h := Eq.refl Yeg
 conv at h => rhs; cbv
 exact h
theorem lf54 : X99.lift [] = some Yeg := by kernel_rfl
def Xi5 : S2 := zL [] [] Xxs
def Xyf := by
 have h := Eq.refl Xi5
 conv at h => rhs; cbv
 exact h
def Yeq : S2 := zL [] [Xi5] n96
def Yhd := by
 have h := fun (a : S2) => Eq.refl (zL [] [a] n96)
 conv at h => intro a; rhs; cbv
 have e : Yeq = _ := h Xi5
 exact e
theorem Yin : Yaj.lift [] = some Yeq := by kernel_rfl
def Yer : S2 := zL [] [] n97
def Yhe := by
 have h := Eq.refl Yer
 conv at h => rhs; cbv
 exact h
theorem Yio : Yak.lift [] = some Yer := by kernel_rfl
def Yes : S2 := zL [] [] n98
def Yhf := by
 have h := Eq.refl Yes
 conv at h => rhs; cbv
 exact h
theorem Yip : Yal.lift [] = some Yes := by kernel_rfl
def Yet : S2 := zL [] [] n99
def Yhg := by
 have h := Eq.refl Yet
 conv at h => rhs; cbv
 exact h
theorem Yiq : Yam.lift [] = some Yet := by kernel_rfl
def X5e : S2 := zL [] [] Yew
def X8q := by
 have h := Eq.refl X5e
 conv at h => rhs; cbv
 exact h
theorem Yap : Xz3.lift [] = some X5e := by kernel_rfl
def X5f : S2 := zL [] [] Yex
def X8r := by
 have h := Eq.refl X5f
 conv at h => rhs; cbv
 exact h
theorem Yaq : Xz4.lift [] = some X5f := by kernel_rfl
def X5s : S2 := zL [] [] Ye5
def X8x := by
 have h := Eq.refl X5s
 conv at h => rhs; cbv
 exact h
theorem Ya3 : X0k.lift [] = some X5s := by kernel_rfl
end Go.Proofs.YtmapdjjigmkbfaaGreatDoor
/- Contracts: classes of bytes and names, of the program and of the document. Condition: the program is the seat's. -/
namespace Go.Proofs.YtmapdjjigmkbfaaGreatDoor
open Go Go.Ab Go.Lx
theorem mixed : Tryz.prog.follows .mixedOrders = true := by kernel_rfl
set_option maxRecDepth 100000

def fnS (f : List UInt8 → Bool) : Ab.Fn := ⟨fun vs => match vs with | [.d (.str _)] => True | _ => False, fun vs => match vs with | [.d (.str s)] => .d (.bool (f s)) | _ => .any⟩
@[simp] theorem fnS_pre (f : List UInt8 → Bool) (s : List UInt8) : (fnS f).pre [.d (.str s)] = True := by simp only [fnS]
@[simp] theorem fnS_val (f : List UInt8 → Bool) (s : List UInt8) : (fnS f).val [.d (.str s)] = .d (.bool (f s)) := by simp only [fnS]
theorem X4o {P : Prg} {k : Nat} {f : List UInt8 → Bool} (h : ∀ s ob (K : V → Prop), K (.d (.bool (f s))) → PCall P k [.d (.str s)] ob K) : PFn P k (fnS f) := by
 intro vs hp ob K hK
 simp only [fnS] at hp hK
 split at hp
 ·exact h _ _ _ hK
 ·exact hp.elim

section
variable {P : Prg} (hP : P.p = Tryz.prog)
include hP
theorem c_Name : PFn P 39 (fnS nameB) := X4o fun s ob K h => by
 refine pcall_lift hP mixed (ds := [.str s]) Yfl Yh3 TOk.nil ?_
 have h' : ∀ b, b = nameB s → K (.d (.bool b)) := fun b e => e ▸ h
 clear h
 simp [Yg0]
 refine ⟨fun hne => h' _ ?_, fun h0 h1 => ?_⟩
 ·rcases hne with rfl | h1
  ·simp [nameB]
  ·simp [nameB]; omega
 ·have h0' : 1 ≤ s.length := by cases s with | nil => exact absurd rfl h0 | cons => simp
  refine ALoop.go (ι := Nat) (fun k => [(0, .d (.str s)), (14, .d (.int .i64 s.length)), (15, .d (.int .i64 k))]) (fun _ => []) (fun k => k ≤ s.length ∧ (∀ i, i < k → Xgk (s.getD i 0).toNat = true) ∧ (0 < k → Za (s.getD 0 0).toNat = true)) (fun k => s.length - k) 0 ⟨by omega, by omega, by omega⟩ (by simp) rfl ?_
  rintro k ⟨hk, hp, hl⟩ R rn re rr _
  simp [Xx8]
  simp only [List.getD_eq_getElem?_getD] at hp hl rn
  refine ⟨fun hlt => ⟨hlt, fun e1 e2 e3 => rr _ _ ?_, fun e => rn [] (k + 1) _ _ ⟨by omega, fun i hi => ?_, fun _ => ?_⟩ (by omega) ?_ rfl rfl rfl⟩, fun hge => re _ _ _ ?_⟩
  ·simp
   refine h' _ (Eq.symm ?_)
   rw [Bool.eq_false_iff]
   intro hn
   simp only [nameB, Bool.and_eq_true, Xn1, List.getD_eq_getElem?_getD] at hn
   have := hn.2 k hlt
   have h2 := hn.1.2
   rcases e3 with rfl | e3
   ·simp [Za] at h2; omega
   ·simp [Xgk, Za, Uc] at this; omega
  ·by_cases hi' : i = k
   ·subst hi'; simp [Xgk, Za, Uc]; omega
   ·exact hp i (by omega)
  ·by_cases h2 : k = 0
   ·subst h2; simp [Za]; omega
   ·exact hl (by omega)
  ·simp; exact IntWalk.i64_in _ (by omega)
  ·have hk' : k = s.length := by omega
   subst hk'
   simp
   refine h' _ (Eq.symm ?_)
   simp only [nameB, Bool.and_eq_true, Xn1, List.getD_eq_getElem?_getD]
   exact ⟨⟨by simp; omega, hl h0'⟩, hp⟩
end
end Go.Proofs.YtmapdjjigmkbfaaGreatDoor
/- Contracts: the first element with a name. Condition: the program is the seat's. -/
namespace Go.Sx
open Go Go.Ab Go.Lx
def Xn {α : Type} (f : α → B) : List α → B → Int → Int
 | [], _, _ => -1
 | x :: r, n, k => if f x = n then k else Xn f r n (k + 1)
theorem Uh {α : Type} (f : α → B) (n : B) : ∀ (l : List α) (j : Nat) (k : Int), j ≤ l.length → (∀ i (h : i < l.length), i < j → f l[i] ≠ n) → Xn f l n k = Xn f (l.drop j) n (k + j)
 | l, 0, k, _, _ => by simp
 | [], j + 1, k, h, _ => by simp at h
 | x :: r, j + 1, k, h, hn => by
  have h0 := hn 0 (by simp) (by omega)
  simp only [List.getElem_cons_zero] at h0
  simp only [Xn, h0, if_false, List.drop_succ_cons]
  rw [Uh f n r j (k + 1) (by simpa using h) (fun i hi hj => by have := hn (i + 1) (by simpa using hi) (by omega); simpa using this)]
  congr 1; push_cast; omega
theorem Ut {α : Type} (f : α → B) (n : B) (l : List α) (j : Nat) (h : j < l.length) (hn : ∀ i (h : i < l.length), i < j → f l[i] ≠ n) (he : f l[j] = n) : Xn f l n 0 = j := by
 rw [Uh f n l j 0 (by omega) hn, List.drop_eq_getElem_cons h]
 simp [Xn, he]
theorem Ww {α : Type} (f : α → B) (n : B) (l : List α) (hn : ∀ i (h : i < l.length), f l[i] ≠ n) : Xn f l n 0 = -1 := by
 rw [Uh f n l l.length 0 (Nat.le_refl _) (fun i hi _ => hn i hi)]
 simp [Xn]
end Go.Sx
namespace Go.Proofs.YtmapdjjigmkbfaaGreatDoor
open Go Go.Ab Go.Lx Go.Sx
set_option maxRecDepth 100000
section
variable {P : Prg} (hP : P.p = Tryz.prog)
include hP
theorem Xb7 {l : List RVar} (hl : l.length ≤ 9223372036854775807) (n : B) {ob : Objs} {K : V → Prop} (h : K (.d (.int .i64 (Xn RVar.name l n 0)))) : PCall P 94 [.d (.list 4 (l.map RVar.enc)), .d (.str n)] ob K := by
 have wr : ∀ {k n : Nat}, k < n → n ≤ 9223372036854775807 → IntKind.i64.wrap ((k : Int) + 1) = (k : Int) + 1 := fun h1 h2 => IntWalk.i64_in _ (by omega)
 refine pcall_lift hP mixed (ds := [.list 4 (l.map RVar.enc), .str n]) Yf2 Yil TOk.nil ?_
 simp [Yhc]
 refine ALoop.go (ι := Nat) (fun k => [(1, .d (.str n)), (7, .d (.list 4 (l.map RVar.enc))), (8, .d (.int .i64 l.length)), (9, .d (.int .i64 k))]) (fun _ => []) (fun k => k ≤ l.length ∧ ∀ i (h : i < l.length), i < k → l[i].name ≠ n) (fun k => l.length - k) 0 ⟨Nat.zero_le _, fun i _ h => by omega⟩ (by simp) (by simp) ?_
 rintro k ⟨hk, hn⟩ R rn re rr rp
 by_cases hlt : k < l.length
 ·simp [Xnr, hlt, RVar.enc]
  refine ⟨fun e => rr _ _ ?_, fun e => rn [] (k + 1) _ _ ⟨by omega, fun i hi hj => ?_⟩ (by omega) (by simp [wr hlt hl]) (by simp [young]) (by simp [young]) (by simp [young])⟩
  ·simp
   rw [Ut RVar.name n l k hlt hn e] at h
   exact h
  ·rcases Nat.lt_or_ge i k with h1 | h1
   ·exact hn i hi h1
   ·have : i = k := by omega
    subst this; exact e
 ·have : k = l.length := by omega
  subst this
  simp [Xnr]
  refine re _ _ _ ?_
  simp
  rw [Ww RVar.name n l (fun i hi => hn i hi hi)] at h
  exact h
end
end Go.Proofs.YtmapdjjigmkbfaaGreatDoor
/- A call whose results keep what they own. Over any program; no condition. -/
namespace Go.Ab
open Go
def X4b (n : Nat) (rs : List RV) (K : Out → Objs → Prop) : Z5
 | .normal, sl, ob => Wg sl ob rs fun vs => X0 n (K (.ret (W5 vs))) vs ob
 | .ret, sl, ob => Wg sl ob rs fun vs => X0 n (K (.ret (W5 vs))) vs ob
 | .panic v, _, ob => X0 n (K (.panic v)) [v] ob
 | .exit _, _, _ => False
section
variable {n k : Nat} {sl : Xb} {ob : Objs} {v : V}
end
theorem Xhk {P : Prg} (hm : P.p.follows .mixedOrders = true) {f : Nat} {s : S} {rs : List RV} {vs : List V} {ob : Objs} {K : Out → Objs → Prop} (hc : Xx P.p f vs.length s rs = true)
  (h : cwp P s (X4b (fresh ob) rs K) (Qe 0 vs) ob) : ACall P f vs ob K := by
 unfold Xx at hc
 split at hc
 ·rename_i fn hf
  split at hc
  ·rename_i code hb
   simp only [Bool.and_eq_true, decide_eq_true_eq] at hc
   obtain ⟨⟨hn, h1⟩, h2⟩ := hc
   refine ⟨fun w ρ args hO hg hr => calls_of_wp hf hb ?_⟩
   let c : Ctx := ⟨w, Xk5 ρ, fn.ntmps, [], P.g, ρ.m, []⟩
   have hlen : args.length = vs.length := by simpa using Ze hr
   have m : Mod c ρ.xo ρ (Qe 0 vs) ob { tmps := args.toArray ++ Array.replicate (fn.ntmps - args.toArray.size) undef, defers := [] } w := by
    refine ⟨⟨Nat.le_refl _, fun _ _ _ => rfl, fun b h => .inr h, rfl, rfl, rfl, fun id o h => ⟨o, h, .refl o⟩, (fun p hp => by cases hp)⟩, hO, ?_, ?_, rfl, rfl, hg⟩
    ·refine Ul hr 0 _ (fun i hi => ?_)
     simp [Array.getElem?_append, hi]
    ·simp [c]; omega
   refine wp_mono (Ya hm rfl code s _ _ _ ρ _ w h1 h m) ?_
   rintro e a' w' ⟨ae, sl', ob', ρ', hq, he, m'⟩
   have old : ∀ kp id o, ρ.m id = some o → young (fresh ob) kp id = false := fun kp id o h0 => by
    obtain ⟨x, hx⟩ := hO.dom id o h0
    have hlt : ¬ fresh ob ≤ id := fun hle => by rw [X1 _ _ hle] at hx; cases hx
    simp [young, hlt]
   have tr : ∀ {ρ2 : Env}, Tr w' ρ' w' ρ2 → ∀ kp, Tr w ρ w' (ρ2.del (young (fresh ob) kp)) := fun {ρ2} t kp => by
    have b2 := m'.base.tr t
    refine ⟨b2.size, fun b h1 h2 => b2.keep b h2 h1, fun b h1 => (b2.owns b (Vt h1)).symm, ?_, ?_, fun id o h1 => ?_, b2.tape, b2.os, b2.out⟩
    ·show ρ2.xo = ρ.xo; rw [t.xo, m'.xo]
    ·show ρ2.gl = ρ.gl; rw [t.gl, m'.gl, hg]
    ·obtain ⟨o', h3, h4⟩ := b2.same id o h1
     exact ⟨o', by simp only [Env.del, old kp id o h1]; exact h3, h4⟩
   have hfin : Wg sl' ob' rs (fun vs => X0 (fresh ob) (K (.ret (W5 vs))) vs ob') → a'.defers = [] ∧ ∃ v, (results fn a'.tmps).run P.p w' = .ok v w' ∧ ∃ out ob2 ρ2, K out ob2 ∧ Xnw w' ρ2 (.returned v) out ∧ OM w' ρ2 ob2 ∧ Tr w ρ w' ρ2 := by
    intro hq
    obtain ⟨vs, us, hk, hrep, hrun⟩ := W4 (P := P.p) (fn := fn) m'.sm m'.om h2 hq
    obtain ⟨kp, k1, k2, k3⟩ := hk
    exact ⟨m'.df, Xq3 us, hrun, .ret (W5 vs), _, _, k3, Qb (Xgt k1 hrep), m'.om.del k2, tr (Tr.refl _ _) kp⟩
   cases ae with
   | normal =>
    cases e <;> simp only [exM] at he
    exact hfin hq
   | ret =>
    cases e <;> simp only [exM] at he
    exact hfin hq
   | exit n => exact hq.elim
   | panic v =>
    cases e <;> simp only [exM] at he
    obtain ⟨u, rfl, hu⟩ := he
    obtain ⟨kp, k1, k2, k3⟩ := hq
    simp only [V.mens, Bool.or_false] at k1
    exact ⟨m'.df, .panic v, _, _, k3, ⟨u, rfl, V.rep_del k1 hu⟩, m'.om.del k2, tr (Tr.refl _ _) kp⟩
  ·simp at hc
 ·simp at hc

end Go.Ab
/- Contracts: names.first of purposes. Condition: the program is the seat's. -/
namespace Go.Proofs.YtmapdjjigmkbfaaGreatDoor
open Go Go.Ab Go.Lx Go.Sx
set_option maxRecDepth 100000
section
variable {P : Prg} (hP : P.p = Tryz.prog)
include hP
theorem X9i : Xi P.p 93 = true := by rw [hP]; kernel_rfl
theorem X9h : Xi P.p 126 = true := by rw [hP]; kernel_rfl
theorem Yb5 {x : RPurpose} {ob : Objs} {K : Out → Objs → Prop} (h : K (.ret (.d (.str x.name))) ob) : ACall P 93 [.d x.enc] ob K :=
 PCall.acall (by
  refine pcall_lift hP mixed (ds := [x.enc]) Yf1 Yik TOk.nil ?_
  simp [Yhb, RPurpose.enc]
  exact h)
abbrev obF (o : Ob) (n : B) : Objs := [(2, .box 9 (.d (.str n))), (1, .box 187 (.fn 93 [] [])), (0, o)]
theorem Yhh {x : RPurpose} {n : B} {o : Ob} {K : Out → Objs → Prop} (h : K (.ret (.d (.bool (x.name == n)))) (obF o n)) : ACall P 126 [.d x.enc, .ptr 1 [], .ptr 2 []] (obF o n) K := by
 refine acall_lift hP mixed X6s Ya0 TOk.nil fun _ hm => ?_
 simp [X8v, X9i hP]
 have hn := hm []
 simp [fresh] at hn
 refine ⟨by rw [D.size_shape]; simp [RPurpose.enc, D.sz, D.szs], by simp [RPurpose.enc], Yb5 hP ?_, Yb5 hP ?_⟩
 ·simp
  refine ⟨[], by simp, ?_, ?_⟩
  ·simp [young]; simpa [young] using hn
  ·simpa [young] using h
 ·simp
  refine ⟨[], by simp, ?_, ?_⟩
  ·simp [young]; simpa [young] using hn
  ·simpa [young] using h
theorem X9d {l : List RPurpose} (hl : l.length ≤ 9223372036854775807) {n : B} {o : Ob} {K : Out → Objs → Prop} (h : K (.ret (.d (.int .i64 (Xn RPurpose.name l n 0)))) (obF o n)) : ACall P 125 [.d (.list 3 (l.map RPurpose.enc)), .fn 126 [] [.ptr 1 [], .ptr 2 []]] (obF o n) K := by
 have wr : ∀ {k n : Nat}, k < n → n ≤ 9223372036854775807 → IntKind.i64.wrap ((k : Int) + 1) = (k : Int) + 1 := fun h1 h2 => IntWalk.i64_in _ (by omega)
 refine acall_lift hP mixed X6r Yaz TOk.nil fun _ hm => ?_
 have hno := hm []
 simp [fresh] at hno
 have lv : ∀ {v : V}, V.mens (young 3 []) [v] = false → K (.ret v) (obF o n) → X0 3 (K (.ret v)) [v] (obF o n) := fun h1 h2 => ⟨[], h1, by simpa [young] using hno, by simpa [young] using h2⟩
 simp [X8u]
 refine ALoop.go (ι := Nat) (fun k => [(0, .d (.list 3 (l.map RPurpose.enc))), (1, .fn 126 [] [.ptr 1 [], .ptr 2 []]), (7, .d (.int .i64 l.length)), (8, .d (.int .i64 k))]) (fun _ => obF o n) (fun k => k ≤ l.length ∧ ∀ i (h : i < l.length), i < k → l[i].name ≠ n) (fun k => l.length - k) 0 ⟨Nat.zero_le _, fun i _ h => by omega⟩ (by simp) (by simp) ?_
 rintro k ⟨hk, hn⟩ R rn re rr rp
 by_cases hlt : k < l.length
 ·simp [Xjo, hlt, X9h hP]
  refine ⟨⟨by simp [RPurpose.enc, D.sz, D.szs], by simp [RPurpose.enc]⟩, Yhh hP ?_⟩
  by_cases e : l[k].name = n
  ·simp [Xjp, e]
   refine rr _ _ ?_
   simp
   rw [Ut RPurpose.name n l k hlt hn e] at h
   exact lv (by simp) h
  ·have e' : (l[k].name == n) = false := by simpa using e
   simp [Xjp, Xsk, e']
   refine rn [] (k + 1) _ _ ⟨by omega, fun i hi hj => ?_⟩ (by omega) (by simp [wr hlt hl]) (by simp [young]) (by simp [young]) (by simpa [young] using hno)
   rcases Nat.lt_or_ge i k with h1 | h1
   ·exact hn i hi h1
   ·have : i = k := by omega
    subst this; exact e
 ·have : k = l.length := by omega
  subst this
  simp [Xjo]
  refine re _ _ _ ?_
  simp
  rw [Ww RPurpose.name n l (fun i hi => hn i hi hi)] at h
  exact lv (by simp) h
def Yg (i : Int) : V := if i < 0 then .tup [.d (.int .i64 0), .d (.bool false)] else .tup [.d (.int .i64 i), .d (.bool true)]
theorem Xyg {l : List RPurpose} (hl : l.length ≤ 9223372036854775807) {n : B} {o : Ob} {K : Out → Objs → Prop} (h : K (.ret (Yg (Xn RPurpose.name l n 0))) [(0, o)]) : ACall P 92 [.d (.list 3 (l.map RPurpose.enc)), .fn 93 [] [], .d (.str n)] [(0, o)] K := by
 refine acall_lift hP mixed Yf0 Yij TOk.nil fun _ hm => ?_
 have hno := hm []
 simp [fresh] at hno
 simp [Yha]
 refine X9d hP hl ?_
 simp [Xye]
 unfold Yg at h
 constructor
 ·intro hi
  simp only [hi, if_true] at h
  exact ⟨[], by simp, by simpa [young] using hno, by simpa [young] using h⟩
 ·intro hi
  rw [if_neg (by omega)] at h
  exact ⟨[], by simp, by simpa [young] using hno, by simpa [young] using h⟩
theorem Xob {y : RSrc} (hl : y.purposes.length ≤ 9223372036854775807) {n : B} {ob : Objs} {K : V → Prop} (h : K (Yg (Xn RPurpose.name y.purposes n 0))) : PCall P 40 [.d y.enc, .d (.str n)] ob K := by
 refine pcall_lift hP mixed (ds := [y.enc, .str n]) Yfm Yh4 TOk.nil ?_
 simp [Yg1, RSrc.enc, Xg]
 refine Xyg hP hl ?_
 unfold Yg at h ⊢
 split at h
 ·rename_i hi
  simp [hi]
  exact h
 ·rename_i hi
  simp [hi]
  exact h
end
end Go.Proofs.YtmapdjjigmkbfaaGreatDoor
/- Contracts: names.first of schemas. Condition: the program is the seat's. -/
namespace Go.Proofs.YtmapdjjigmkbfaaGreatDoor
open Go Go.Ab Go.Lx Go.Sx
set_option maxRecDepth 100000
section
variable {P : Prg} (hP : P.p = Tryz.prog)
include hP
theorem X4a : Xi P.p 114 = true := by rw [hP]; kernel_rfl
theorem X38 : Xi P.p 136 = true := by rw [hP]; kernel_rfl
theorem X3z {x : RSchema} {ob : Objs} {K : Out → Objs → Prop} (h : K (.ret (.d (.str x.name))) ob) : ACall P 114 [.d x.enc] ob K :=
 PCall.acall (by
  refine pcall_lift hP mixed (ds := [x.enc]) X6q Yay TOk.nil ?_
  simp [X8t, RSchema.enc]
  exact h)
abbrev X2y (o : Ob) (n : B) : Objs := [(2, .box 9 (.d (.str n))), (1, .box 208 (.fn 114 [] [])), (0, o)]
theorem X9c {x : RSchema} {n : B} {o : Ob} {K : Out → Objs → Prop} (h : K (.ret (.d (.bool (x.name == n)))) (X2y o n)) : ACall P 136 [.d x.enc, .ptr 1 [], .ptr 2 []] (X2y o n) K := by
 refine acall_lift hP mixed X6z Ya7 TOk.nil fun _ hm => ?_
 simp [X80, X4a hP]
 have hn := hm []
 simp [fresh] at hn
 refine ⟨by rw [D.size_shape]; simp [RSchema.enc, D.sz, D.szs], by simp [RSchema.enc], X3z hP ?_, X3z hP ?_⟩
 ·simp
  refine ⟨[], by simp, ?_, ?_⟩
  ·simp [young]; simpa [young] using hn
  ·simpa [young] using h
 ·simp
  refine ⟨[], by simp, ?_, ?_⟩
  ·simp [young]; simpa [young] using hn
  ·simpa [young] using h
theorem X3x {l : List RSchema} (hl : l.length ≤ 9223372036854775807) {n : B} {o : Ob} {K : Out → Objs → Prop} (h : K (.ret (.d (.int .i64 (Xn RSchema.name l n 0)))) (X2y o n)) : ACall P 135 [.d (.list 6 (l.map RSchema.enc)), .fn 136 [] [.ptr 1 [], .ptr 2 []]] (X2y o n) K := by
 have wr : ∀ {k n : Nat}, k < n → n ≤ 9223372036854775807 → IntKind.i64.wrap ((k : Int) + 1) = (k : Int) + 1 := fun h1 h2 => IntWalk.i64_in _ (by omega)
 refine acall_lift hP mixed X6y Ya6 TOk.nil fun _ hm => ?_
 have hno := hm []
 simp [fresh] at hno
 have lv : ∀ {v : V}, V.mens (young 3 []) [v] = false → K (.ret v) (X2y o n) → X0 3 (K (.ret v)) [v] (X2y o n) := fun h1 h2 => ⟨[], h1, by simpa [young] using hno, by simpa [young] using h2⟩
 simp [X8z]
 refine ALoop.go (ι := Nat) (fun k => [(0, .d (.list 6 (l.map RSchema.enc))), (1, .fn 136 [] [.ptr 1 [], .ptr 2 []]), (7, .d (.int .i64 l.length)), (8, .d (.int .i64 k))]) (fun _ => X2y o n) (fun k => k ≤ l.length ∧ ∀ i (h : i < l.length), i < k → l[i].name ≠ n) (fun k => l.length - k) 0 ⟨Nat.zero_le _, fun i _ h => by omega⟩ (by simp) (by simp) ?_
 rintro k ⟨hk, hn⟩ R rn re rr rp
 by_cases hlt : k < l.length
 ·simp [Xjq, hlt, X38 hP]
  refine ⟨⟨by simp [RSchema.enc, D.sz, D.szs], by simp [RSchema.enc]⟩, X9c hP ?_⟩
  by_cases e : l[k].name = n
  ·simp [Xjr, e]
   refine rr _ _ ?_
   simp
   rw [Ut RSchema.name n l k hlt hn e] at h
   exact lv (by simp) h
  ·have e' : (l[k].name == n) = false := by simpa using e
   simp [Xjr, Xsl, e']
   refine rn [] (k + 1) _ _ ⟨by omega, fun i hi hj => ?_⟩ (by omega) (by simp [wr hlt hl]) (by simp [young]) (by simp [young]) (by simpa [young] using hno)
   rcases Nat.lt_or_ge i k with h1 | h1
   ·exact hn i hi h1
   ·have : i = k := by omega
    subst this; exact e
 ·have : k = l.length := by omega
  subst this
  simp [Xjq]
  refine re _ _ _ ?_
  simp
  rw [Ww RSchema.name n l (fun i hi => hn i hi hi)] at h
  exact lv (by simp) h
theorem Xsr {l : List RSchema} (hl : l.length ≤ 9223372036854775807) {n : B} {o : Ob} {K : Out → Objs → Prop} (h : K (.ret (Yg (Xn RSchema.name l n 0))) [(0, o)]) : ACall P 113 [.d (.list 6 (l.map RSchema.enc)), .fn 114 [] [], .d (.str n)] [(0, o)] K := by
 refine acall_lift hP mixed X6p Yax TOk.nil fun _ hm => ?_
 have hno := hm []
 simp [fresh] at hno
 simp [X8s]
 refine X3x hP hl ?_
 simp [Xsj]
 unfold Yg at h
 constructor
 ·intro hi
  simp only [hi, if_true] at h
  exact ⟨[], by simp, by simpa [young] using hno, by simpa [young] using h⟩
 ·intro hi
  rw [if_neg (by omega)] at h
  exact ⟨[], by simp, by simpa [young] using hno, by simpa [young] using h⟩
theorem Xs0 {y : RSrc} (hl : y.schemas.length ≤ 9223372036854775807) {n : B} {ob : Objs} {K : V → Prop} (h : K (Yg (Xn RSchema.name y.schemas n 0))) : PCall P 71 [.d y.enc, .d (.str n)] ob K := by
 refine pcall_lift hP mixed (ds := [y.enc, .str n]) Yfy Yig TOk.nil ?_
 simp [Yg8, RSrc.enc, Xg]
 refine Xsr hP hl ?_
 unfold Yg at h ⊢
 split at h
 ·rename_i hi
  simp [hi]
  exact h
 ·rename_i hi
  simp [hi]
  exact h
end
end Go.Proofs.YtmapdjjigmkbfaaGreatDoor
/- Contracts: names.first of fields. Condition: the program is the seat's. -/
namespace Go.Proofs.YtmapdjjigmkbfaaGreatDoor
open Go Go.Ab Go.Lx Go.Sx
set_option maxRecDepth 100000
section
variable {P : Prg} (hP : P.p = Tryz.prog)
include hP
theorem X39 : Xi P.p 153 = true := by rw [hP]; kernel_rfl
theorem X37 : Xi P.p 167 = true := by rw [hP]; kernel_rfl
theorem X3y {x : RField} {ob : Objs} {K : Out → Objs → Prop} (h : K (.ret (.d (.str x.name))) ob) : ACall P 153 [.d x.enc] ob K :=
 PCall.acall (by
  refine pcall_lift hP mixed (ds := [x.enc]) X67 Ybf TOk.nil ?_
  simp [X86, RField.enc]
  exact h)
abbrev X2x (o : Ob) (n : B) : Objs := [(2, .box 9 (.d (.str n))), (1, .box 254 (.fn 153 [] [])), (0, o)]
theorem X9b {x : RField} {n : B} {o : Ob} {K : Out → Objs → Prop} (h : K (.ret (.d (.bool (x.name == n)))) (X2x o n)) : ACall P 167 [.d x.enc, .ptr 1 [], .ptr 2 []] (X2x o n) K := by
 refine acall_lift hP mixed X69 Ybh TOk.nil fun _ hm => ?_
 simp [X88, X39 hP]
 have hn := hm []
 simp [fresh] at hn
 refine ⟨by rw [D.size_shape]; simp [RField.enc, RType.enc, Xg, D.sz, D.szs], by simp [RField.enc], X3y hP ?_, X3y hP ?_⟩
 ·simp
  refine ⟨[], by simp, ?_, ?_⟩
  ·simp [young]; simpa [young] using hn
  ·simpa [young] using h
 ·simp
  refine ⟨[], by simp, ?_, ?_⟩
  ·simp [young]; simpa [young] using hn
  ·simpa [young] using h
theorem X3w {l : List RField} (hl : l.length ≤ 9223372036854775807) {n : B} {o : Ob} {K : Out → Objs → Prop} (h : K (.ret (.d (.int .i64 (Xn RField.name l n 0)))) (X2x o n)) : ACall P 166 [.d (.list 11 (l.map RField.enc)), .fn 167 [] [.ptr 1 [], .ptr 2 []]] (X2x o n) K := by
 have wr : ∀ {k n : Nat}, k < n → n ≤ 9223372036854775807 → IntKind.i64.wrap ((k : Int) + 1) = (k : Int) + 1 := fun h1 h2 => IntWalk.i64_in _ (by omega)
 refine acall_lift hP mixed X68 Ybg TOk.nil fun _ hm => ?_
 have hno := hm []
 simp [fresh] at hno
 have lv : ∀ {v : V}, V.mens (young 3 []) [v] = false → K (.ret v) (X2x o n) → X0 3 (K (.ret v)) [v] (X2x o n) := fun h1 h2 => ⟨[], h1, by simpa [young] using hno, by simpa [young] using h2⟩
 simp [X87]
 refine ALoop.go (ι := Nat) (fun k => [(0, .d (.list 11 (l.map RField.enc))), (1, .fn 167 [] [.ptr 1 [], .ptr 2 []]), (7, .d (.int .i64 l.length)), (8, .d (.int .i64 k))]) (fun _ => X2x o n) (fun k => k ≤ l.length ∧ ∀ i (h : i < l.length), i < k → l[i].name ≠ n) (fun k => l.length - k) 0 ⟨Nat.zero_le _, fun i _ h => by omega⟩ (by simp) (by simp) ?_
 rintro k ⟨hk, hn⟩ R rn re rr rp
 by_cases hlt : k < l.length
 ·simp [Xjt, hlt, X37 hP]
  refine ⟨⟨by simp [RField.enc, RType.enc, Xg, D.sz, D.szs], by simp [RField.enc]⟩, X9b hP ?_⟩
  by_cases e : l[k].name = n
  ·simp [Xju, e]
   refine rr _ _ ?_
   simp
   rw [Ut RField.name n l k hlt hn e] at h
   exact lv (by simp) h
  ·have e' : (l[k].name == n) = false := by simpa using e
   simp [Xju, Xsn, e']
   refine rn [] (k + 1) _ _ ⟨by omega, fun i hi hj => ?_⟩ (by omega) (by simp [wr hlt hl]) (by simp [young]) (by simp [young]) (by simpa [young] using hno)
   rcases Nat.lt_or_ge i k with h1 | h1
   ·exact hn i hi h1
   ·have : i = k := by omega
    subst this; exact e
 ·have : k = l.length := by omega
  subst this
  simp [Xjt]
  refine re _ _ _ ?_
  simp
  rw [Ww RField.name n l (fun i hi => hn i hi hi)] at h
  exact lv (by simp) h
theorem Xsq {l : List RField} (hl : l.length ≤ 9223372036854775807) {n : B} {o : Ob} {K : Out → Objs → Prop} (h : K (.ret (Yg (Xn RField.name l n 0))) [(0, o)]) : ACall P 152 [.d (.list 11 (l.map RField.enc)), .fn 153 [] [], .d (.str n)] [(0, o)] K := by
 refine acall_lift hP mixed X66 Ybe TOk.nil fun _ hm => ?_
 have hno := hm []
 simp [fresh] at hno
 simp [X85]
 refine X3w hP hl ?_
 simp [Xsm]
 unfold Yg at h
 constructor
 ·intro hi
  simp only [hi, if_true] at h
  exact ⟨[], by simp, by simpa [young] using hno, by simpa [young] using h⟩
 ·intro hi
  rw [if_neg (by omega)] at h
  exact ⟨[], by simp, by simpa [young] using hno, by simpa [young] using h⟩
theorem Xyz {y : RSrc} (hs : ∀ x ∈ y.schemas, x.small) (hl : y.schemas.length ≤ 9223372036854775807) {k : Int} {n : B} {ob : Objs} {K : V → Prop} (h0 : (k < 0 ∨ (y.schemas.length : Int) ≤ k) → K (.tup [.d (.int .i64 0), .d (.bool false)])) (h : ∀ i (hi : i < y.schemas.length), k = i → K (Yg (Xn RField.name y.schemas[i].fields n 0))) : PCall P 137 [.d y.enc, .d (.int .i64 k), .d (.str n)] ob K := by
 refine pcall_lift hP mixed (ds := [y.enc, .int .i64 k, .str n]) X60 Ya8 TOk.nil ?_
 by_cases hk : k < 0 ∨ (y.schemas.length : Int) ≤ k
 ·have hk' : k < 0 ∨ k ≥ (y.schemas.length : Int) := hk
  simp [X3v, RSrc.enc, Xg, hk]
  exact ⟨h0 hk, fun h1 h2 => by omega⟩
 ·obtain ⟨i, rfl, hi⟩ : ∃ i : Nat, k = i ∧ i < y.schemas.length := ⟨k.toNat, by omega, by omega⟩
  have hfl := (hs _ (List.getElem_mem hi)).fields
  have h := h i hi rfl
  simp [X3v, RSrc.enc, Xg, hi, RSchema.enc]
  refine ⟨fun hc => by omega, Xsq hP hfl ?_⟩
  unfold Yg at h ⊢
  split at h
  ·rename_i hi
   simp [hi]
   exact h
  ·rename_i hi
   simp [hi]
   exact h
end
end Go.Proofs.YtmapdjjigmkbfaaGreatDoor
/- Contract: whether a term is a number. Condition: the program is the seat's. -/
namespace Go.Sx
open Go Go.Ab Go.Lx
def RTerm.isNum (t : RTerm) : Bool := decide (t.name = []) && decide (t.path = []) && decide (t.var = -1) && decide (t.field = 0) && decide (0 ≤ t.n) && decide (t.n ≤ 1048576)
end Go.Sx
namespace Go.Proofs.YtmapdjjigmkbfaaGreatDoor
open Go Go.Ab Go.Lx Go.Sx
set_option maxRecDepth 100000
section
variable {P : Prg} (hP : P.p = Tryz.prog)
include hP
theorem Xlu (t : RTerm) {ob : Objs} {K : V → Prop} (h : K (.d (.bool t.isNum))) : PCall P 128 [.d t.enc] ob K := by
 refine pcall_lift hP mixed (ds := [t.enc]) X6u Ya2 TOk.nil ?_
 obtain ⟨n, p, v, f, m⟩ := t
 simp only [RTerm.isNum] at h
 by_cases h1 : n = []
 ·by_cases h2 : p = []
  ·by_cases h3 : v = -1
   ·by_cases h4 : f = 0
    ·by_cases h5 : 0 ≤ m
     ·by_cases h6 : m ≤ 1048576
      ·simp [Xhg, RTerm.enc, h1, h2, h3, h4, h5, h6] at h ⊢; exact h
      ·simp [Xhg, RTerm.enc, h1, h2, h3, h4, h5, h6] at h ⊢; exact h
     ·simp [Xhg, RTerm.enc, h1, h2, h3, h4, h5] at h ⊢; exact h
    ·simp [Xhg, RTerm.enc, h1, h2, h3, h4] at h ⊢; exact h
   ·simp [Xhg, RTerm.enc, h1, h2, h3] at h ⊢; exact h
  ·simp [Xhg, RTerm.enc, h1, h2] at h ⊢; exact h
 ·simp [Xhg, RTerm.enc, h1] at h ⊢; exact h
end
end Go.Proofs.YtmapdjjigmkbfaaGreatDoor
/- Contract: the type of a field. Condition: the program is the seat's. -/
namespace Go.Sx
open Go Go.Ab Go.Lx
def Xr5 : D := .agg [iD 0, iD 0, iD 0, .str [], iD 0, .nils]
end Go.Sx
namespace Go.Proofs.YtmapdjjigmkbfaaGreatDoor
open Go Go.Ab Go.Lx Go.Sx
set_option maxRecDepth 100000
section
variable {P : Prg} (hP : P.p = Tryz.prog)
include hP
theorem Xs4 {y : RSrc} {s f : Int} {ob : Objs} {K : V → Prop} (h0 : ¬ (∃ (i : Nat) (hi : i < y.schemas.length) (j : Nat), s = i ∧ f = j ∧ j < y.schemas[i].fields.length) → K (.tup [.d Xr5, .d (.bool false)]))
  (h : ∀ (i : Nat) (hi : i < y.schemas.length) (j : Nat) (hj : j < y.schemas[i].fields.length), s = i → f = j → K (.tup [.d y.schemas[i].fields[j].type.enc, .d (.bool true)])) :
  PCall P 105 [.d (.agg [y.enc]), .d (.int .i64 s), .d (.int .i64 f)] ob K := by
 refine pcall_lift hP mixed (ds := [.agg [y.enc], .int .i64 s, .int .i64 f]) X6j Yar TOk.nil ?_
 by_cases h1 : s < 0
 ·simp [Xnb, RSrc.enc, Xg, h1]
  refine h0 ?_
  rintro ⟨i, _, j, rfl, _⟩; omega
 by_cases h2 : (y.schemas.length : Int) ≤ s
 ·simp [Xnb, RSrc.enc, Xg, h1, h2]
  refine h0 ?_
  rintro ⟨i, hi, j, rfl, _⟩; omega
 obtain ⟨i, rfl, hi⟩ : ∃ i : Nat, s = i ∧ i < y.schemas.length := ⟨s.toNat, by omega, by omega⟩
 by_cases h3 : f < 0
 ·simp [Xnb, RSrc.enc, Xg, hi, h3]
  refine h0 ?_
  rintro ⟨i', _, j, _, rfl, _⟩; omega
 by_cases h4 : (y.schemas[i].fields.length : Int) ≤ f
 ·simp [Xnb, RSrc.enc, Xg, hi, h3, h4, RSchema.enc]
  refine h0 ?_
  rintro ⟨i', _, j, e, rfl, hj⟩
  have : i = i' := by omega
  subst this; omega
 obtain ⟨j, rfl, hj⟩ : ∃ j : Nat, f = j ∧ j < y.schemas[i].fields.length := ⟨f.toNat, by omega, by omega⟩
 simp [Xnb, RSrc.enc, Xg, hi, hj, RSchema.enc, RField.enc, RType.enc]
 exact ⟨fun hc => by omega, h i hi j hj rfl rfl⟩
end
end Go.Proofs.YtmapdjjigmkbfaaGreatDoor
/- Contract: whether a unit is valid. Condition: the program is the seat's. -/
namespace Go.Sx
open Go Go.Ab Go.Lx
def Xmy (y : RSrc) (u : RUnit) : Bool := decide (1 ≤ u.scale) && decide (u.scale ≤ 1099511627776) && decide (0 ≤ u.base) && (match y.units[u.base.toNat]? with | some v => decide (v.scale = 1) | none => false)
end Go.Sx
namespace Go.Proofs.YtmapdjjigmkbfaaGreatDoor
open Go Go.Ab Go.Lx Go.Sx
set_option maxRecDepth 100000
section
variable {P : Prg} (hP : P.p = Tryz.prog)
include hP
theorem Xs5 {y : RSrc} (u : RUnit) {ob : Objs} {K : V → Prop} (h : K (.d (.bool (Xmy y u)))) : PCall P 107 [.d (.agg [y.enc]), .d u.enc] ob K := by
 refine pcall_lift hP mixed (ds := [.agg [y.enc], u.enc]) X6l Yat TOk.nil ?_
 obtain ⟨n, o, f, b, s⟩ := u
 simp only [Xmy] at h
 by_cases h1 : 1 ≤ s
 ·by_cases h2 : s ≤ 1099511627776
  ·by_cases h3 : 0 ≤ b
   ·obtain ⟨i, rfl⟩ : ∃ i : Nat, b = i := ⟨b.toNat, by omega⟩
    by_cases h4 : i < y.units.length
    ·by_cases h5 : y.units[i].scale = 1
     ·simp [Xlp, RSrc.enc, Xg, RUnit.enc, h1, h2, h4, h5] at h ⊢; exact h
     ·have h5' : (y.units[i].scale == 1) = false := by simpa using h5
      simp [Xlp, RSrc.enc, Xg, RUnit.enc, h1, h2, h4, h5, h5'] at h ⊢; exact h
    ·simp [Xlp, RSrc.enc, Xg, RUnit.enc, h1, h2, h4] at h ⊢; exact h
   ·simp [Xlp, RSrc.enc, Xg, RUnit.enc, h1, h2, h3] at h ⊢; exact h
  ·simp [Xlp, RSrc.enc, Xg, RUnit.enc, h1, h2] at h ⊢; exact h
 ·simp [Xlp, RSrc.enc, Xg, RUnit.enc, h1] at h ⊢; exact h
end
end Go.Proofs.YtmapdjjigmkbfaaGreatDoor
/- Contract: slices.Equal of strings. Condition: the program is the seat's. -/
namespace Go.Proofs.YtmapdjjigmkbfaaGreatDoor
open Go Go.Ab Go.Lx Go.Sx
set_option maxRecDepth 100000
section
variable {P : Prg} (hP : P.p = Tryz.prog)
include hP
theorem Xs2 {a b : List B} (ha : a.length ≤ 9223372036854775807) {ob : Objs} {K : V → Prop} (h : K (.d (.bool (decide (a = b))))) : PCall P 108 [.d (Xg a), .d (Xg b)] ob K := by
 have wr : ∀ {k n : Nat}, k < n → n ≤ 9223372036854775807 → IntKind.i64.wrap ((k : Int) + 1) = (k : Int) + 1 := fun h1 h2 => IntWalk.i64_in _ (by omega)
 refine pcall_lift hP mixed (ds := [Xg a, Xg b]) X6m Yau TOk.nil ?_
 by_cases hl : a.length = b.length
 ·simp [X3u, Xg, hl]
  refine ALoop.go (ι := Nat) (fun k => [(0, .d (.list 1 (a.map D.str))), (1, .d (.list 1 (b.map D.str))), (12, .d (.int .i64 b.length)), (13, .d (.int .i64 k))]) (fun _ => []) (fun k => k ≤ b.length ∧ a.take k = b.take k) (fun k => b.length - k) 0 ⟨Nat.zero_le _, by simp⟩ (by simp) (by simp) ?_
  rintro k ⟨hk, he⟩ R rn re rr rp
  by_cases hlt : k < b.length
  ·have hlt' : k < a.length := by omega
   simp [Xjn, hlt, hlt']
   refine ⟨fun e => rr _ _ ?_, fun e => rn [] (k + 1) _ _ ⟨by omega, ?_⟩ (by omega) (by simp [wr hlt (by omega)]) (by simp [young]) (by simp [young]) (by simp [young])⟩
   ·simp
    have ne : a ≠ b := fun h => by subst h; exact e rfl
    rw [decide_eq_false ne] at h
    exact h
   ·rw [List.take_succ_eq_append_getElem hlt', List.take_succ_eq_append_getElem hlt, he, e]
  ·have : k = b.length := by omega
   subst this
   simp [Xjn]
   refine re _ _ _ ?_
   simp
   have e : a = b := by rw [← hl, List.take_length, hl, List.take_length] at he; exact he
   rw [decide_eq_true e] at h
   exact h
 ·have hl' : ¬ (a.length : Int) = b.length := by omega
  have e : a ≠ b := fun e => hl (by rw [e])
  rw [decide_eq_false e] at h
  simp [X3u, Xg, hl]
  exact ⟨fun _ => h, fun h => (hl' h).elim⟩
end
end Go.Proofs.YtmapdjjigmkbfaaGreatDoor
/- The abstract statements that stand for the code of these functions, written by a program from the translation; that they do is checked by the kernel. No condition. -/
namespace Go.Proofs.YtmapdjjigmkbfaaGreatDoor
open Go Go.Ab
set_option maxRecDepth 100000
def n9 : Nat := 0x4800204b0de02e2862280ed24e0c11bd204046f470010411bd046042046f4500405838304604100008a00008004102e000811080002
def ir9 : S := zS [] n9
theorem ok9 : Xx Tryz.prog 9 1 ir9 [.t 2] = true := by kernel_rfl
def n13 : Nat := 0x1200101445780b903483c194e04df4e04e04137d0c30c204df4c000b8b1c8303b4a383047f491011fd200041047f430820811fd18014124e0811c138000200308202e001b110200ef0c0002
def Yct : S := zS [] n13
theorem Yit : Xx Tryz.prog 13 2 Yct [.t 4] = true := by kernel_rfl
def Xw6 : Nat := 0x1006042838b077820ed7f8b000c68387830000c8002040b837810000a8e2c100a381810d40ed9f8b0f0e6e2c125e2c001064e2c0410a3e2c8b8b03186021e2c0010411458b88080000871421870dee2c1007b81810dde2c6b8b0d0dce2c11be2c0010411450866f8785000082
def Xw7 : Nat := 0x1005042478b067820ed438b000c54787830000c8002040b83781000099e2c1006781410cc0ed638b0f0d7e2c116e2c001055e2c104094e2c4f8b05185012e2c0010411044f88080000851421070cfe2c1003f81410cee2c2f8b0d0cde2c10ce2c001041104085338785000082
def Xw8 : Nat := 0x10040429857820ed9400c499e0c000320008102e0de0400022b8b0400ae04043278b01b81e2c20c0ed238b0f0c0078f47e2c100078f46e2c001040078f45e2c104080078f44e2c0f8b05180078f44000078f42e2c001040078f410c3080078f40e2c037b01bafb08283b76b0f0c0bfdd6c100bfdd2c001040bfdcec0c3080bfdcacc6c14602ff44000bfdc2c001040bfd0430c202ff6eb00203b6db0f0ecb04ac0041a82082a681461009c00410430e881c0000831420870e41009040438e03438848400410430c2121785000082
def Xw9 : Nat := 0x10030423447820ed3000c335e0c000320008102e0de0400027c401f0c10de06e588203b5d3c3016f5c1005bd6c0041016f5a1450805bd658186016f430005bd5c0041016f410820805bd540303b543c34c448004144410240f1860c038004104208f8120000811420070cb1002c30432873432442000410420820c8785000082
def n24 : Nat := 0x4800204ae6c0de02e279b05e6c2080ed239b0e0c1179f47e6c101179f46e6c001041179f41145081179f44e6c000b83e6cff8b08203b42e6c38307fe3d079b0407fe3d039b0004107fe3d04410207fe3dfb8b0002ef78b39e2c2080edf38b0e0c1e78f7be2c101e78f7ae2c001041e78f410c3081e78f78e2c000bb7e2ccf8b08303b76e2c383073e3dd78b04073e3dd38b00041073e3d042082073e3dcb8b0002ec78b2de2c20a0edc38b0e0c1b78f6fe2c101b78f6ee2c001041b78f41041081b78f6ce2c0080edaf8b0e0eae2c129e2c001041000ab88230000832860421861401810800ed00100008208a141086105005042003b400400020812840421821401010800ed00100008200a0c1086005003042003b4004000208004102e000751080002
def Ycy : S := zS [(zS [] Xw9), (zS [] Xw8), (zS [] Xw7), (zS [] Xw6)] n24
theorem Yiy : Xx Tryz.prog 24 1 Ycy [.t 2] = true := by kernel_rfl
def n37 : Nat := 0x12000813c3780b8e308a03b4d38304cf4400133d2c043a0ed28e0c32de1c00020040c22402047811470052651c6786060e0e0413877c700008004102e000a91080002
def Yc4 : S := zS [] n37
theorem Yi4 : Xx Tryz.prog 37 1 Yc4 [.t 2] = true := by kernel_rfl
def X2e : S := .seq (.seq (.rg [] [.op (some 9) (.c (.mv (.t 6))),
   .op (some 10) (.c (.fldA 2 2 (.t 1))),
   .op (some 11) (.c (.ld 1 false (.t 10))),
   .op (some 12) (.c (.lenL (.t 11))),
   .op (some 13) (.c (.bin .lss (.t 9) (.t 12)))] [1, 4, 5, 6, 13] [])
 (.cond (.t 13) (.skip) (.exit 0)))
 (.seq (.block 1 (.seq (.rg [] [.op (some 17) (.c (.fldA 2 2 (.t 1))),
   .op (some 18) (.c (.ld 1 false (.t 17))),
   .op (some 19) (.c (.mv (.t 6))),
   .op (some 20) (.c (.idxA 14 (.t 18) (.t 19))),
   .op (some 21) (.c (.ld 14 true (.t 20))),
   .op (some 22) (.pcall 88 [(.t 21)]),
   .op (some 16) (.c (.mv (.t 22))),
   .op (some 23) (.c (.ext (.t 16) 0)),
   .op (some 24) (.c (.ext (.t 16) 1)),
   .op (some 7) (.c (.mv (.t 23))),
   .op (some 8) (.c (.mv (.t 24)))] [1, 4, 5, 6, 7, 8] [])
 (.seq (.rg [] [.op (some 25) (.c (.mv (.t 4))),
   .op (some 26) (.c (.mv (.t 7))),
   .op (some 27) (.c (.bin .add (.t 25) (.t 26))),
   .op (some 4) (.c (.mv (.t 27)))] [1, 4, 5, 6, 8] [])
 (.rg [] [.op (some 28) (.c (.mv (.t 5))),
   .op (some 29) (.c (.mv (.t 8))),
   .op (some 30) (.c (.mx (.t 28) (.t 29))),
   .op (some 5) (.c (.mv (.t 30)))] [1, 4, 5, 6] []))))
 (.rg [] [.op (some 14) (.c (.mv (.t 6))),
   .op (some 15) (.c (.bin .add (.t 14) (.int .i64 1))),
   .op (some 6) (.c (.mv (.t 15)))] [1, 4, 5, 6] []))
def n88 : Nat := 0x480030828407c37820ed8000c500481e14000200a185101106005006144044003b40040002080144043003b40040002004042083b400400020010400ed0000ed000a910c0002
def Ydj : S := zS [X2e] n88
theorem Yjj : Xx Tryz.prog 88 1 Ydj [.t 2, .t 3] = true := by kernel_rfl
end Go.Proofs.YtmapdjjigmkbfaaGreatDoor
/- The same statements with their regions folded into expressions, printed by the fold itself; that they are that is checked by the kernel. No condition. -/
namespace Go.Proofs.YtmapdjjigmkbfaaGreatDoor
open Go Go.Ab
set_option maxRecDepth 100000
def lt9 : S2 := zL [] [] n9
def Et9 := by
 have h := Eq.refl lt9
 conv at h => rhs; cbv
 exact h
theorem lf9 : ir9.lift [] = some lt9 := by kernel_rfl
def Ydq : S2 := zL [] [] n13
def Ygt := by
 have h := Eq.refl Ydq
 conv at h => rhs; cbv
 exact h
theorem Yhr : Yct.lift [] = some Ydq := by kernel_rfl
def Xik : S2 := zL [] [] Xw6
def Xne := by
 have h := Eq.refl Xik
 conv at h => rhs; cbv
 exact h
def Xil : S2 := zL [] [] Xw7
def Xnf := by
 have h := Eq.refl Xil
 conv at h => rhs; cbv
 exact h
def Xim : S2 := zL [] [] Xw8
def Xng := by
 have h := Eq.refl Xim
 conv at h => rhs; cbv
 exact h
def Xin : S2 := zL [] [] Xw9
def Xnh := by
 have h := Eq.refl Xin
 conv at h => rhs; cbv
 exact h
def Ydy : S2 := zL [] [Xin, Xim, Xil, Xik] n24
def Ygx := by
 have h := fun (a b c d : S2) => Eq.refl (zL [] [a, b, c, d] n24)
 conv at h => intro a b c d; rhs; cbv
 have e : Ydy = _ := h Xin Xim Xil Xik
 exact e
theorem Yhz : Ycy.lift [] = some Ydy := by kernel_rfl
def Yd0 : S2 := zL [] [] n37
def Ygz := by
 have h := Eq.refl Yd0
 conv at h => rhs; cbv
 exact h
theorem Yh1 : Yc4.lift [] = some Yd0 := by kernel_rfl
def Xeg : S2 := .seq (.seq (.rg [] [(1, (.a (.t 1))), (4, (.a (.t 4))), (5, (.a (.t 5))), (6, (.a (.t 6))), (13, (.b (.bin .lss (.t 0) (.t 1)) (.a (.t 6)) (.u (.lenL (.t 0)) (.u (.ld 1 false (.t 0)) (.u (.fldA 2 2 (.t 0)) (.a (.t 1)))))))] [])
 (.cond (.t 13) (.skip) (.exit 0)))
 (.seq (.block 1 (.seq (.rg [.chk [] (.u (.ld 14 true (.t 0)) (.b (.idxA 14 (.t 0) (.t 1)) (.u (.ld 1 false (.t 0)) (.u (.fldA 2 2 (.t 0)) (.a (.t 1)))) (.a (.t 6)))), .lt 21 [] (.u (.ld 14 true (.t 0)) (.b (.idxA 14 (.t 0) (.t 1)) (.u (.ld 1 false (.t 0)) (.u (.fldA 2 2 (.t 0)) (.a (.t 1)))) (.a (.t 6)))), .op (some 22) (.pcall 88 [(.t 21)])] [(1, (.a (.t 1))), (4, (.a (.t 4))), (5, (.a (.t 5))), (6, (.a (.t 6))), (7, (.u (.ext (.t 0) 0) (.a (.t 22)))), (8, (.u (.ext (.t 0) 1) (.a (.t 22))))] [])
 (.seq (.rg [] [(1, (.a (.t 1))), (4, (.b (.bin .add (.t 0) (.t 1)) (.a (.t 4)) (.a (.t 7)))), (5, (.a (.t 5))), (6, (.a (.t 6))), (8, (.a (.t 8)))] [])
 (.rg [] [(1, (.a (.t 1))), (4, (.a (.t 4))), (5, (.b (.mx (.t 0) (.t 1)) (.a (.t 5)) (.a (.t 8)))), (6, (.a (.t 6)))] []))))
 (.rg [] [(1, (.a (.t 1))), (4, (.a (.t 4))), (5, (.a (.t 5))), (6, (.b (.bin .add (.t 0) (.t 1)) (.a (.t 6)) (.a (.int .i64 1))))] []))
def Yel : S2 := zL [] [Xeg] n88
def Yg9 := by
 have h := fun (a : S2) => Eq.refl (zL [] [a] n88)
 conv at h => intro a; rhs; cbv
 have e : Yel = _ := h Xeg
 exact e
theorem Yih : Ydj.lift [] = some Yel := by kernel_rfl
end Go.Proofs.YtmapdjjigmkbfaaGreatDoor
