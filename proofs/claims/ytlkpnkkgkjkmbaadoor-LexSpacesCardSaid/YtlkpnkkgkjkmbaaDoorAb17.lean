/- Regions folded into expressions: the expressions, what they yield, and how a region is folded. Over any program; no condition. -/
import Derived.Test.YtlkpnkkgkjkmbaaDoorAb16
namespace Go.Ab
open Go

/-- Expressions. In 'u', 'b', 't' the operation's operands are the slots 0, 1, 2. -/
inductive E where
  | a (x : A)
  | u (c : C) (x : E)
  | b (c : C) (x y : E)
  | t (c : C) (x y z : E)
  | ite (c x y : E)
  | call (f : Nat) (x : E)
  | nil
  | cons (x r : E)

/-- What is known of a function: when, and what it answers. -/
structure Fn where
  pre : List V → Prop
  val : List V → V
abbrev Tab := List (Nat × Fn)
def lookT : Tab → Nat → Option Fn
  | [], _ => none
  | (j, x) :: r, k => if j = k then some x else lookT r k
def TOk (P : Prg) (T : Tab) : Prop := ∀ f F, lookT T f = some F → ∀ vs, F.pre vs → ∀ (ob : Objs) (K : V → Prop), K (F.val vs) → PCall P f vs ob K

def isB (pol : Bool) : V → Bool
  | .d (.bool b) => b == pol
  | _ => false
def boolV : V → Prop
  | .d (.bool _) => True
  | _ => False
def consV (x : V) : V → V
  | .tup xs => .tup (x :: xs)
  | _ => .any
def callV : Option Fn → V → V
  | some F, .tup vs => F.val vs
  | _, _ => .any
def callP : Option Fn → V → Prop
  | some F, .tup vs => F.pre vs
  | _, _ => False

def E.val (T : Tab) (sl : Slots) (ob : Objs) : E → V
  | .a x => x.ev sl
  | .u c x => c.val [(0, x.val T sl ob)] ob
  | .b c x y => c.val [(0, x.val T sl ob), (1, y.val T sl ob)] ob
  | .t c x y z => c.val [(0, x.val T sl ob), (1, y.val T sl ob), (2, z.val T sl ob)] ob
  | .ite c x y => pickV (c.val T sl ob) (x.val T sl ob) (y.val T sl ob)
  | .call f x => callV (lookT T f) (x.val T sl ob)
  | .nil => .tup []
  | .cons x r => consV (x.val T sl ob) (r.val T sl ob)
def E.ok (T : Tab) (sl : Slots) (ob : Objs) : E → Prop
  | .a _ => True
  | .u c x => x.ok T sl ob ∧ c.ok [(0, x.val T sl ob)] ob
  | .b c x y => x.ok T sl ob ∧ y.ok T sl ob ∧ c.ok [(0, x.val T sl ob), (1, y.val T sl ob)] ob
  | .t c x y z => x.ok T sl ob ∧ y.ok T sl ob ∧ z.ok T sl ob ∧ c.ok [(0, x.val T sl ob), (1, y.val T sl ob), (2, z.val T sl ob)] ob
  | .ite c x y => c.ok T sl ob ∧ boolV (c.val T sl ob) ∧ (isB true (c.val T sl ob) = true → x.ok T sl ob) ∧ (isB false (c.val T sl ob) = true → y.ok T sl ob)
  | .call f x => x.ok T sl ob ∧ callP (lookT T f) (x.val T sl ob)
  | .nil => True
  | .cons x r => x.ok T sl ob ∧ r.ok T sl ob

def A.men (k : Nat) : A → Bool
  | .t j => j == k
  | _ => false
def E.men (k : Nat) : E → Bool
  | .a x => x.men k
  | .u _ x => x.men k
  | .b _ x y => x.men k || y.men k
  | .t _ x y z => x.men k || y.men k || z.men k
  | .ite x y z => x.men k || y.men k || z.men k
  | .call _ x => x.men k
  | .nil => false
  | .cons x y => x.men k || y.men k
def C.rd : C → Bool
  | .ld _ _ _ => true
  | _ => false
def E.rd : E → Bool
  | .a _ => false
  | .u c x => c.rd || x.rd
  | .b c x y => c.rd || x.rd || y.rd
  | .t c x y z => c.rd || x.rd || y.rd || z.rd
  | .ite x y z => x.rd || y.rd || z.rd
  | .call _ x => x.rd
  | .nil => false
  | .cons x y => x.rd || y.rd
def E.isA : E → Bool
  | .a _ => true
  | _ => false

theorem E.val_sl {T : Tab} {sl : Slots} {ob : Objs} {k : Nat} {v : V} : ∀ {e : E}, e.men k = false → e.val T ((k, v) :: sl) ob = e.val T sl ob
  | .a x, h => by
    cases x <;> simp only [E.val, A.ev]
    rename_i j
    simp only [E.men, A.men, beq_eq_false_iff_ne, ne_eq] at h
    have h' : ¬ k = j := fun e => h e.symm
    simp [look, h']
  | .u c x, h => by simp only [E.men] at h; simp only [E.val, E.val_sl h]
  | .b c x y, h => by simp only [E.men, Bool.or_eq_false_iff] at h; simp only [E.val, E.val_sl h.1, E.val_sl h.2]
  | .t c x y z, h => by simp only [E.men, Bool.or_eq_false_iff] at h; simp only [E.val, E.val_sl h.1.1, E.val_sl h.1.2, E.val_sl h.2]
  | .ite x y z, h => by simp only [E.men, Bool.or_eq_false_iff] at h; simp only [E.val, E.val_sl h.1.1, E.val_sl h.1.2, E.val_sl h.2]
  | .call f x, h => by simp only [E.men] at h; simp only [E.val, E.val_sl h]
  | .nil, _ => rfl
  | .cons x y, h => by simp only [E.men, Bool.or_eq_false_iff] at h; simp only [E.val, E.val_sl h.1, E.val_sl h.2]
theorem C.val_ob {sl : Slots} {ob ob' : Objs} {c : C} (h : c.rd = false) : c.val sl ob = c.val sl ob' := by
  cases c <;> simp_all [C.rd, C.val]
theorem E.val_ob {T : Tab} {sl : Slots} {ob ob' : Objs} : ∀ {e : E}, e.rd = false → e.val T sl ob = e.val T sl ob'
  | .a x, h => rfl
  | .u c x, h => by simp only [E.rd, Bool.or_eq_false_iff] at h; simp only [E.val, E.val_ob (ob' := ob') h.2, C.val_ob (ob' := ob') h.1]
  | .b c x y, h => by simp only [E.rd, Bool.or_eq_false_iff] at h; simp only [E.val, E.val_ob (ob' := ob') h.1.2, E.val_ob (ob' := ob') h.2, C.val_ob (ob' := ob') h.1.1]
  | .t c x y z, h => by simp only [E.rd, Bool.or_eq_false_iff] at h; simp only [E.val, E.val_ob (ob' := ob') h.1.1.2, E.val_ob (ob' := ob') h.1.2, E.val_ob (ob' := ob') h.2, C.val_ob (ob' := ob') h.1.1.1]
  | .ite x y z, h => by simp only [E.rd, Bool.or_eq_false_iff] at h; simp only [E.val, E.val_ob (ob' := ob') h.1.1, E.val_ob (ob' := ob') h.1.2, E.val_ob (ob' := ob') h.2]
  | .call f x, h => by simp only [E.rd] at h; simp only [E.val, E.val_ob (ob' := ob') h]
  | .nil, _ => rfl
  | .cons x y, h => by simp only [E.rd, Bool.or_eq_false_iff] at h; simp only [E.val, E.val_ob (ob' := ob') h.1, E.val_ob (ob' := ob') h.2]

/-! The fold -/

/-- under which guards -/
abbrev Path := List (Nat × Bool)
abbrev Sg := List (Nat × Option (Path × E))
def lookG : Sg → Nat → Option (Option (Path × E))
  | [], _ => none
  | (j, x) :: r, k => if j = k then some x else lookG r k
def ent (σ : Sg) (k : Nat) : Option (Path × E) := match lookG σ k with
  | none => some ([], .a (.t k))
  | some x => x
def holdsS (sl : Slots) (p : Path) : Bool := p.all fun g => isB g.2 (look sl g.1)
def holdsB (T : Tab) (sl : Slots) (ob : Objs) (p : List (E × Bool)) : Bool := p.all fun g => isB g.2 (g.1.val T sl ob)
def Inv (T : Tab) (σ : Sg) (sl sl0 : Slots) (ob : Objs) : Prop := ∀ k p e, ent σ k = some (p, e) →
  (holdsS sl p = true → look sl k = e.val T sl0 ob) ∧ (holdsS sl p = false → look sl k = .undef)

def opE (σ : Sg) (p : Path) : A → Option E
  | .t k => match ent σ k with
    | some (q, e) => if q.isPrefixOf p then some e else none
    | none => none
  | x => some (.a x)
def lift1 (σ : Sg) (p : Path) (c : C) (x : A) : Option E := match opE σ p x with
  | some x => some (.u c x)
  | none => none
def lift2 (σ : Sg) (p : Path) (c : C) (x y : A) : Option E := match opE σ p x, opE σ p y with
  | some x, some y => some (.b c x y)
  | _, _ => none
def lift3 (σ : Sg) (p : Path) (c : C) (x y z : A) : Option E := match opE σ p x, opE σ p y, opE σ p z with
  | some x, some y, some z => some (.t c x y z)
  | _, _, _ => none
def pickE (σ : Sg) (p : Path) (g : Nat) (x y : A) : Option E := match opE σ p (.t g), opE σ (p ++ [(g, true)]) x, opE σ (p ++ [(g, false)]) y with
  | some c, some x, some y => some (.ite c x y)
  | _, _, _ => none
def argsE (σ : Sg) (p : Path) : List A → Option E
  | [] => some .nil
  | x :: r => match opE σ p x, argsE σ p r with
    | some x, some r => some (.cons x r)
    | _, _ => none

def C.lift (σ : Sg) (p : Path) : C → Option E
  | .mv x => opE σ p x
  | .pick (.t g) x y => pickE σ p g x y
  | .pick _ _ _ => none
  | .not x => lift1 σ p (.not (.t 0)) x
  | .neg x => lift1 σ p (.neg (.t 0)) x
  | .bin o x y => lift2 σ p (.bin o (.t 0) (.t 1)) x y
  | .beq e x y => lift2 σ p (.beq e (.t 0) (.t 1)) x y
  | .isnil e x => lift1 σ p (.isnil e (.t 0)) x
  | .pnil e x => lift1 σ p (.pnil e (.t 0)) x
  | .fnil e x => lift1 σ p (.fnil e (.t 0)) x
  | .peq e x y => lift2 σ p (.peq e (.t 0) (.t 1)) x y
  | .usd x => lift1 σ p (.usd (.t 0)) x
  | .cvi k x => lift1 σ p (.cvi k (.t 0)) x
  | .cvs x => lift1 σ p (.cvs (.t 0)) x
  | .idx x i => lift2 σ p (.idx (.t 0) (.t 1)) x i
  | .idxA z x i => lift2 σ p (.idxA z (.t 0) (.t 1)) x i
  | .idxP n z x i => lift2 σ p (.idxP n z (.t 0) (.t 1)) x i
  | .fldA f fo x => lift1 σ p (.fldA f fo (.t 0)) x
  | .fld f fo n ag x => lift1 σ p (.fld f fo n ag (.t 0)) x
  | .ld n ag x => lift1 σ p (.ld n ag (.t 0)) x
  | .nilc x => lift1 σ p (.nilc (.t 0)) x
  | .lenS x => lift1 σ p (.lenS (.t 0)) x
  | .lenL x => lift1 σ p (.lenL (.t 0)) x
  | .lenA n => some (.a (.int .i64 n))
  | .slcS x none none => lift1 σ p (.slcS (.t 0) none none) x
  | .slcS x (some l) none => lift2 σ p (.slcS (.t 0) (some (.t 1)) none) x l
  | .slcS x none (some h) => lift2 σ p (.slcS (.t 0) none (some (.t 1))) x h
  | .slcS x (some l) (some h) => lift3 σ p (.slcS (.t 0) (some (.t 1)) (some (.t 2))) x l h
  | .slcL z x none none => lift1 σ p (.slcL z (.t 0) none none) x
  | .slcL z x (some l) none => lift2 σ p (.slcL z (.t 0) (some (.t 1)) none) x l
  | .slcL z x none (some h) => lift2 σ p (.slcL z (.t 0) none (some (.t 1))) x h
  | .slcL z x (some l) (some h) => lift3 σ p (.slcL z (.t 0) (some (.t 1)) (some (.t 2))) x l h
  | .ext x i => lift1 σ p (.ext (.t 0) i) x
  | .mki t x => lift1 σ p (.mki t (.t 0)) x
  | .tas t z x => lift1 σ p (.tas t z (.t 0)) x
  | .bld _ _ => none
  | .mkf _ _ _ => none
def I.lift (fs : List Nat) (σ : Sg) (p : Path) : I → Option E
  | .c x => x.lift σ p
  | .pcall f args => if fs.contains f then (match argsE σ p args with | some e => some (.call f e) | none => none) else none
  | _ => none

/-- the operands that are safe if the whole is -/
def use1 (σ : Sg) (p : Path) : A → List Nat
  | .t k => match ent σ k with
    | some (q, _) => if q == p then [k] else []
    | none => []
  | _ => []
def uses (σ : Sg) (p : Path) : List A → List Nat
  | [] => []
  | x :: r => use1 σ p x ++ uses σ p r
def C.cons (σ : Sg) (p : Path) : C → List Nat
  | .mv x | .not x | .neg x | .isnil _ x | .pnil _ x | .fnil _ x | .usd x | .cvi _ x | .cvs x | .fldA _ _ x | .fld _ _ _ _ x | .ld _ _ x | .nilc x | .lenS x | .lenL x | .ext x _ | .mki _ x | .tas _ _ x => use1 σ p x
  | .bin _ x y | .beq _ x y | .peq _ x y | .idx x y | .idxA _ x y | .idxP _ _ x y => use1 σ p x ++ use1 σ p y
  | .slcS x none none | .slcL _ x none none => use1 σ p x
  | .slcS x (some y) none | .slcL _ x (some y) none | .slcS x none (some y) | .slcL _ x none (some y) => use1 σ p x ++ use1 σ p y
  | .slcS x (some y) (some z) | .slcL _ x (some y) (some z) => use1 σ p x ++ use1 σ p y ++ use1 σ p z
  | .pick (.t g) x y => use1 σ p (.t g) ++ use1 σ (p ++ [(g, true)]) x ++ use1 σ (p ++ [(g, false)]) y
  | _ => []
def I.cons (σ : Sg) (p : Path) : I → List Nat
  | .c x => x.cons σ p
  | .pcall _ args => uses σ p args
  | _ => []
def I.gcons (σ : Sg) (p : Path) : I → List Nat
  | .c (.pick (.t g) _ _) => use1 σ p (.t g)
  | _ => []

section
variable {P : Prg} {T : Tab} {σ : Sg} {sl sl0 : Slots} {ob : Objs} {p : Path}

theorem holds_prefix {q : Path} (h : q.isPrefixOf p = true) (hp : holdsS sl p = true) : holdsS sl q = true := by
  rw [List.isPrefixOf_iff_prefix] at h
  obtain ⟨t, rfl⟩ := h
  simp only [holdsS, List.all_append, Bool.and_eq_true] at hp ⊢
  exact hp.1
theorem opE_val (hI : Inv T σ sl sl0 ob) (hp : holdsS sl p = true) {x : A} {e : E} (h : opE σ p x = some e) : e.val T sl0 ob = x.ev sl := by
  cases x with
  | t k =>
    simp only [opE] at h
    split at h
    · rename_i q e' he
      split at h
      · rename_i hq
        cases h
        exact ((hI k q e he).1 (holds_prefix hq hp)).symm
      · cases h
    · cases h
  | _ => simp only [opE] at h; cases h; rfl
theorem lift1_of {c : C} {x : A} {e : E} (h : lift1 σ p c x = some e) : ∃ ex, e = .u c ex ∧ opE σ p x = some ex := by
  unfold lift1 at h; split at h
  · cases h; exact ⟨_, rfl, by assumption⟩
  · cases h
theorem lift2_of {c : C} {x y : A} {e : E} (h : lift2 σ p c x y = some e) : ∃ ex ey, e = .b c ex ey ∧ opE σ p x = some ex ∧ opE σ p y = some ey := by
  unfold lift2 at h; split at h
  · cases h; exact ⟨_, _, rfl, by assumption, by assumption⟩
  · cases h
theorem lift3_of {c : C} {x y z : A} {e : E} (h : lift3 σ p c x y z = some e) : ∃ ex ey ez, e = .t c ex ey ez ∧ opE σ p x = some ex ∧ opE σ p y = some ey ∧ opE σ p z = some ez := by
  unfold lift3 at h; split at h
  · cases h; exact ⟨_, _, _, rfl, by assumption, by assumption, by assumption⟩
  · cases h
theorem pickE_of {g : Nat} {x y : A} {e : E} (h : pickE σ p g x y = some e) : ∃ ec ex ey, e = .ite ec ex ey ∧ opE σ p (.t g) = some ec ∧ opE σ (p ++ [(g, true)]) x = some ex ∧ opE σ (p ++ [(g, false)]) y = some ey := by
  unfold pickE at h; split at h
  · cases h; exact ⟨_, _, _, rfl, by assumption, by assumption, by assumption⟩
  · cases h
theorem argsE_val (hI : Inv T σ sl sl0 ob) (hp : holdsS sl p = true) : ∀ {xs : List A} {e : E}, argsE σ p xs = some e → e.val T sl0 ob = .tup (xs.map (A.ev sl))
  | [], e, h => by simp only [argsE] at h; cases h; rfl
  | x :: r, e, h => by
    simp only [argsE] at h
    split at h
    · rename_i ex er hx hr
      cases h
      simp only [E.val, opE_val hI hp hx, argsE_val hI hp hr, consV, List.map_cons]
    · cases h
theorem pickV_t (x y : V) : pickV (.d (.bool true)) x y = x := by unfold pickV; split <;> simp_all
theorem pickV_f (x y : V) : pickV (.d (.bool false)) x y = y := by unfold pickV; split <;> simp_all
theorem pickV_n {v : V} (h : ¬ boolV v) (x y : V) : pickV v x y = .any := by unfold pickV; split <;> simp_all [boolV]
theorem boolV_of {v : V} (h : boolV v) : v = .d (.bool true) ∨ v = .d (.bool false) := by
  unfold boolV at h; split at h
  · rename_i b; cases b <;> simp
  · exact h.elim

theorem C.lift_sound (hI : Inv T σ sl sl0 ob) (hp : holdsS sl p = true) {c : C} {e : E} (h : c.lift σ p = some e) : e.val T sl0 ob = c.val sl ob ∧ (e.ok T sl0 ob → c.ok sl ob) := by
  have l1 : ∀ {c x}, lift1 σ p c x = some e → ∃ ex, e = .u c ex ∧ ex.val T sl0 ob = x.ev sl := fun h => by
    obtain ⟨ex, rfl, hx⟩ := lift1_of h; exact ⟨ex, rfl, opE_val hI hp hx⟩
  have l2 : ∀ {c x y}, lift2 σ p c x y = some e → ∃ ex ey, e = .b c ex ey ∧ ex.val T sl0 ob = x.ev sl ∧ ey.val T sl0 ob = y.ev sl := fun h => by
    obtain ⟨ex, ey, rfl, hx, hy⟩ := lift2_of h; exact ⟨ex, ey, rfl, opE_val hI hp hx, opE_val hI hp hy⟩
  have l3 : ∀ {c x y z}, lift3 σ p c x y z = some e → ∃ ex ey ez, e = .t c ex ey ez ∧ ex.val T sl0 ob = x.ev sl ∧ ey.val T sl0 ob = y.ev sl ∧ ez.val T sl0 ob = z.ev sl := fun h => by
    obtain ⟨ex, ey, ez, rfl, hx, hy, hz⟩ := lift3_of h; exact ⟨ex, ey, ez, rfl, opE_val hI hp hx, opE_val hI hp hy, opE_val hI hp hz⟩
  unfold C.lift at h
  split at h
  case h_1 => exact ⟨by rw [opE_val hI hp h]; rfl, fun _ => rfl⟩
  case h_2 g x y =>
    obtain ⟨ec, ex, ey, rfl, hc, hx, hy⟩ := pickE_of h
    have hcv := opE_val hI hp hc
    simp only [A.ev] at hcv
    have hpt : ∀ b, look sl g = .d (.bool b) → holdsS sl (p ++ [(g, b)]) = true := fun b hb => by
      simp only [holdsS, List.all_append, Bool.and_eq_true] at hp ⊢
      exact ⟨hp, by simp [hb, isB]⟩
    simp only [E.val, E.ok, C.val, C.ok, C.wp, ev_t, hcv]
    by_cases hb : boolV (look sl g)
    · rcases boolV_of hb with hb | hb
      · have := opE_val hI (hpt true hb) hx
        rw [hb]; simp only [pickV_t, pickK_t, this]; exact ⟨trivial, fun _ => trivial⟩
      · have := opE_val hI (hpt false hb) hy
        rw [hb]; simp only [pickV_f, pickK_f, this]; exact ⟨trivial, fun _ => trivial⟩
    · rw [pickV_n hb, pickV_n hb]; exact ⟨rfl, fun h => (hb h.2.1).elim⟩
  case h_24 => cases h; exact ⟨rfl, fun _ => rfl⟩
  all_goals first
    | (cases h; done)
    | (obtain ⟨ex, rfl, hx⟩ := l1 h; simp only [E.val, E.ok, C.val, C.ok, C.wp, ev_t, look_eq, hx, Option.map]; exact ⟨trivial, fun h => h.2⟩)
    | (obtain ⟨ex, ey, rfl, hx, hy⟩ := l2 h; simp only [E.val, E.ok, C.val, C.ok, C.wp, ev_t, look_eq, look_ne, Nat.reduceBEq, hx, hy, Option.map]; exact ⟨trivial, fun h => h.2.2⟩)
    | (obtain ⟨ex, ey, ez, rfl, hx, hy, hz⟩ := l3 h; simp only [E.val, E.ok, C.val, C.ok, C.wp, ev_t, look_eq, look_ne, Nat.reduceBEq, hx, hy, hz, Option.map]; exact ⟨trivial, fun h => h.2.2.2⟩)
end
end Go.Ab
