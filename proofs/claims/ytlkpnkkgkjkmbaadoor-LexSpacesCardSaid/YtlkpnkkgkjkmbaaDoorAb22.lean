/- The equations by which folded statements are walked. Over any program; no condition. -/
import Derived.Test.YtlkpnkkgkjkmbaaDoorAb21
import Derived.IntWalk
namespace Go.Ab
open Go

theorem pcall_lift {P : Prg} {p : Program} (hP : P.p = p) (hm : p.follows .mixedOrders = true) {f : Nat} {s : S} {rs : List RV} {ds : List D} {ob0 : Objs} {K : V → Prop} {fs : List Nat} {s2 : S2} {T : Tab} (hc : fnOk p f ds.length s rs = true) (hl : s.lift fs = some s2) (hT : TOk P T)
    (h : cwp2 P T s2 (pureQ rs K) (argS 0 (ds.map .d)) []) : PCall P f (ds.map .d) ob0 K :=
  pcall_fn hP hm hc (S.lift_sound hT s hl (fun _ _ _ h => h) h)

/-- A function that is handed objects, by its folded body. -/
theorem acall_lift {P : Prg} {p : Program} (hP : P.p = p) (hm : p.follows .mixedOrders = true) {f : Nat} {s : S} {rs : List RV} {vs : List V} {ob : Objs} {K : Out → Objs → Prop} {fs : List Nat} {s2 : S2} {T : Tab} (hc : fnOk p f vs.length s rs = true) (hl : s.lift fs = some s2) (hT : TOk P T)
    (h : (∀ kp, V.mens (young (fresh ob) kp) vs = false) → (∀ kp, noMenO (young (fresh ob) kp) ob = true) → cwp2 P T s2 (callQ (fresh ob) rs K) (argS 0 vs) ob) : ACall P f vs ob K :=
  ACall.of_wf fun h1 h2 => by subst hP; exact acall_walk hm hc (S.lift_sound hT s hl (fun _ _ _ h => h) (h h1 h2))

/-- what is known of a function holds -/
def PFn (P : Prg) (f : Nat) (F : Fn) : Prop := ∀ vs, F.pre vs → ∀ (ob : Objs) (K : V → Prop), K (F.val vs) → PCall P f vs ob K
theorem TOk.nil {P : Prg} : TOk P [] := fun f F h => by simp [lookT] at h
theorem TOk.cons {P : Prg} {T : Tab} {f : Nat} {F : Fn} (h : PFn P f F) (hT : TOk P T) : TOk P ((f, F) :: T) := fun g G hg => by
  simp only [lookT] at hg
  split at hg
  · rename_i e; subst e; cases hg; exact h
  · exact hT g G hg

/-! When an operation is safe -/
def notS (v : V) : Prop := notK (fun w => w = notV v) v
def negS (v : V) : Prop := negK (fun w => w = negV v) v
def binS (o : BinOp) (u v : V) : Prop := binK o (fun w => w = binV o u v) u v
def beqS (e : Bool) (u v : V) : Prop := beqK e (fun w => w = beqV e u v) u v
def isnilS (e : Bool) (v : V) : Prop := isnilK e (fun w => w = isnilV e v) v
def pnilS (e : Bool) (v : V) : Prop := pnilK e (fun w => w = pnilV e v) v
def fnilS (e : Bool) (v : V) : Prop := fnilK e (fun w => w = fnilV e v) v
def peqS (ob : Objs) (e : Bool) (u v : V) : Prop := peqK ob e (fun w => w = .d (.bool e)) u v
def usdS (ob : Objs) (v : V) : Prop := usdK ob (fun w => w = usdV v) v
def cviS (k : IntKind) (v : V) : Prop := cviK k (fun w => w = cviV k v) v
def cvsS (v : V) : Prop := cvsK (fun w => w = cvsV v) v
def idxS (u v : V) : Prop := idxK (fun w => w = idxV u v) u v
def idxAS (z : Nat) (u v : V) : Prop := idxAK z (fun w => w = idxAV u v) u v
def idxPS (ob : Objs) (n z : Nat) (u v : V) : Prop := idxPK ob n z (fun w => w = idxPV u v) u v
def fldAS (ob : Objs) (f fo : Nat) (v : V) : Prop := fldAK ob f fo (fun w => w = fldAV f v) v
def fldS (f fo n : Nat) (ag : Bool) (v : Option (List V)) : Prop := fldK f fo n ag (fun w => w = fldV f v) v
def ldS (ob : Objs) (n : Nat) (ag : Bool) (v : V) : Prop := ldK ob n ag (fun w => w = ldV ob v) v
def nilcS (v : V) : Prop := nilcK (fun w => w = v) v
def lenSS (v : V) : Prop := lenSK (fun w => w = lenSV v) v
def lenLS (ob : Objs) (v : V) : Prop := lenLK ob (fun w => w = lenLV v) v
def slcSS (l h : Option V) (v : V) : Prop := slcSK l h (fun w => w = slcSV l h v) v
def slcLS (z : Nat) (l h : Option V) (v : V) : Prop := slcLK z l h (fun w => w = slcLV l h v) v
def extS (i : Nat) (v : V) : Prop := extK i (fun w => w = extV i v) v
def tasS (t : Nat) (z : D) (v : V) : Prop := tasK t z (fun w => w = tasV t z v) v

section
variable (P : Prg) (T : Tab) (sl : Slots) (ob : Objs) (x y z : E) (a : A) (u v w : V) (k j n m : Nat) (b c : Bool) (kd kd' : IntKind) (i i' : Int) (s s' : List UInt8) (xs : List D) (vs : List V) (d : D) (o : BinOp) (p : List Nat)
-- what expressions yield
@[simp] theorem v_a : E.val T sl ob (.a a) = a.ev sl := by simp only [E.val]
@[simp] theorem v_ite : E.val T sl ob (.ite x y z) = pickV (x.val T sl ob) (y.val T sl ob) (z.val T sl ob) := by simp only [E.val]
@[simp] theorem v_call : E.val T sl ob (.call k x) = callV (lookT T k) (x.val T sl ob) := by simp only [E.val]
@[simp] theorem v_nil : E.val T sl ob .nil = .tup [] := by simp only [E.val]
@[simp] theorem v_cons : E.val T sl ob (.cons x y) = consV (x.val T sl ob) (y.val T sl ob) := by simp only [E.val]
@[simp] theorem v_not : E.val T sl ob (.u (.not (.t 0)) x) = notV (x.val T sl ob) := by simp [E.val, C.val]
@[simp] theorem v_neg : E.val T sl ob (.u (.neg (.t 0)) x) = negV (x.val T sl ob) := by simp [E.val, C.val]
@[simp] theorem v_bin : E.val T sl ob (.b (.bin o (.t 0) (.t 1)) x y) = binV o (x.val T sl ob) (y.val T sl ob) := by simp [E.val, C.val]
@[simp] theorem v_beq : E.val T sl ob (.b (.beq b (.t 0) (.t 1)) x y) = beqV b (x.val T sl ob) (y.val T sl ob) := by simp [E.val, C.val]
@[simp] theorem v_isnil : E.val T sl ob (.u (.isnil b (.t 0)) x) = isnilV b (x.val T sl ob) := by simp [E.val, C.val]
@[simp] theorem v_pnil : E.val T sl ob (.u (.pnil b (.t 0)) x) = pnilV b (x.val T sl ob) := by simp [E.val, C.val]
@[simp] theorem v_fnil : E.val T sl ob (.u (.fnil b (.t 0)) x) = fnilV b (x.val T sl ob) := by simp [E.val, C.val]
@[simp] theorem v_peq : E.val T sl ob (.b (.peq b (.t 0) (.t 1)) x y) = .d (.bool b) := by simp [E.val, C.val]
@[simp] theorem v_usd : E.val T sl ob (.u (.usd (.t 0)) x) = usdV (x.val T sl ob) := by simp [E.val, C.val]
@[simp] theorem v_cvi : E.val T sl ob (.u (.cvi kd (.t 0)) x) = cviV kd (x.val T sl ob) := by simp [E.val, C.val]
@[simp] theorem v_cvs : E.val T sl ob (.u (.cvs (.t 0)) x) = cvsV (x.val T sl ob) := by simp [E.val, C.val]
@[simp] theorem v_idx : E.val T sl ob (.b (.idx (.t 0) (.t 1)) x y) = idxV (x.val T sl ob) (y.val T sl ob) := by simp [E.val, C.val]
@[simp] theorem v_idxA : E.val T sl ob (.b (.idxA n (.t 0) (.t 1)) x y) = idxAV (x.val T sl ob) (y.val T sl ob) := by simp [E.val, C.val]
@[simp] theorem v_idxP : E.val T sl ob (.b (.idxP k n (.t 0) (.t 1)) x y) = idxPV (x.val T sl ob) (y.val T sl ob) := by simp [E.val, C.val]
@[simp] theorem v_fldA : E.val T sl ob (.u (.fldA k n (.t 0)) x) = fldAV k (x.val T sl ob) := by simp [E.val, C.val]
@[simp] theorem v_fld : E.val T sl ob (.u (.fld k n m b (.t 0)) x) = fldV k (x.val T sl ob).kids := by simp [E.val, C.val]
@[simp] theorem v_ld : E.val T sl ob (.u (.ld n b (.t 0)) x) = ldV ob (x.val T sl ob) := by simp [E.val, C.val]
@[simp] theorem v_nilc : E.val T sl ob (.u (.nilc (.t 0)) x) = x.val T sl ob := by simp [E.val, C.val]
@[simp] theorem v_lenS : E.val T sl ob (.u (.lenS (.t 0)) x) = lenSV (x.val T sl ob) := by simp [E.val, C.val]
@[simp] theorem v_lenL : E.val T sl ob (.u (.lenL (.t 0)) x) = lenLV (x.val T sl ob) := by simp [E.val, C.val]
@[simp] theorem v_slcS0 : E.val T sl ob (.u (.slcS (.t 0) none none) x) = slcSV none none (x.val T sl ob) := by simp [E.val, C.val]
@[simp] theorem v_slcS1 : E.val T sl ob (.b (.slcS (.t 0) (some (.t 1)) none) x y) = slcSV (some (y.val T sl ob)) none (x.val T sl ob) := by simp [E.val, C.val]
@[simp] theorem v_slcS2 : E.val T sl ob (.b (.slcS (.t 0) none (some (.t 1))) x y) = slcSV none (some (y.val T sl ob)) (x.val T sl ob) := by simp [E.val, C.val]
@[simp] theorem v_slcS3 : E.val T sl ob (.t (.slcS (.t 0) (some (.t 1)) (some (.t 2))) x y z) = slcSV (some (y.val T sl ob)) (some (z.val T sl ob)) (x.val T sl ob) := by simp [E.val, C.val]
@[simp] theorem v_slcL0 : E.val T sl ob (.u (.slcL n (.t 0) none none) x) = slcLV none none (x.val T sl ob) := by simp [E.val, C.val]
@[simp] theorem v_slcL1 : E.val T sl ob (.b (.slcL n (.t 0) (some (.t 1)) none) x y) = slcLV (some (y.val T sl ob)) none (x.val T sl ob) := by simp [E.val, C.val]
@[simp] theorem v_slcL2 : E.val T sl ob (.b (.slcL n (.t 0) none (some (.t 1))) x y) = slcLV none (some (y.val T sl ob)) (x.val T sl ob) := by simp [E.val, C.val]
@[simp] theorem v_slcL3 : E.val T sl ob (.t (.slcL n (.t 0) (some (.t 1)) (some (.t 2))) x y z) = slcLV (some (y.val T sl ob)) (some (z.val T sl ob)) (x.val T sl ob) := by simp [E.val, C.val]
@[simp] theorem v_ext : E.val T sl ob (.u (.ext (.t 0) n) x) = extV n (x.val T sl ob) := by simp [E.val, C.val]
@[simp] theorem v_mki : E.val T sl ob (.u (.mki n (.t 0)) x) = mkiV n (x.val T sl ob) := by simp [E.val, C.val]
@[simp] theorem v_tas : E.val T sl ob (.u (.tas n d (.t 0)) x) = tasV n d (x.val T sl ob) := by simp [E.val, C.val]
-- when expressions are safe
@[simp] theorem o_a : E.ok T sl ob (.a a) = True := by simp only [E.ok]
@[simp] theorem o_ite : E.ok T sl ob (.ite x y z) = (x.ok T sl ob ∧ boolV (x.val T sl ob) ∧ (isB true (x.val T sl ob) = true → y.ok T sl ob) ∧ (isB false (x.val T sl ob) = true → z.ok T sl ob)) := by simp only [E.ok]
@[simp] theorem o_call : E.ok T sl ob (.call k x) = (x.ok T sl ob ∧ callP (lookT T k) (x.val T sl ob)) := by simp only [E.ok]
@[simp] theorem o_nil : E.ok T sl ob .nil = True := by simp only [E.ok]
@[simp] theorem o_cons : E.ok T sl ob (.cons x y) = (x.ok T sl ob ∧ y.ok T sl ob) := by simp only [E.ok]
@[simp] theorem o_not : E.ok T sl ob (.u (.not (.t 0)) x) = (x.ok T sl ob ∧ notS (x.val T sl ob)) := by simp [E.ok, C.ok, C.val, notS]
@[simp] theorem o_neg : E.ok T sl ob (.u (.neg (.t 0)) x) = (x.ok T sl ob ∧ negS (x.val T sl ob)) := by simp [E.ok, C.ok, C.val, negS]
@[simp] theorem o_bin : E.ok T sl ob (.b (.bin o (.t 0) (.t 1)) x y) = (x.ok T sl ob ∧ y.ok T sl ob ∧ binS o (x.val T sl ob) (y.val T sl ob)) := by simp [E.ok, C.ok, C.val, binS]
@[simp] theorem o_peq : E.ok T sl ob (.b (.peq b (.t 0) (.t 1)) x y) = (x.ok T sl ob ∧ y.ok T sl ob ∧ peqS ob b (x.val T sl ob) (y.val T sl ob)) := by simp [E.ok, C.ok, C.val, peqS]
@[simp] theorem o_usd : E.ok T sl ob (.u (.usd (.t 0)) x) = (x.ok T sl ob ∧ usdS ob (x.val T sl ob)) := by simp [E.ok, C.ok, C.val, usdS]
@[simp] theorem o_beq : E.ok T sl ob (.b (.beq b (.t 0) (.t 1)) x y) = (x.ok T sl ob ∧ y.ok T sl ob ∧ beqS b (x.val T sl ob) (y.val T sl ob)) := by simp [E.ok, C.ok, C.val, beqS]
@[simp] theorem o_isnil : E.ok T sl ob (.u (.isnil b (.t 0)) x) = (x.ok T sl ob ∧ isnilS b (x.val T sl ob)) := by simp [E.ok, C.ok, C.val, isnilS]
@[simp] theorem o_pnil : E.ok T sl ob (.u (.pnil b (.t 0)) x) = (x.ok T sl ob ∧ pnilS b (x.val T sl ob)) := by simp [E.ok, C.ok, C.val, pnilS]
@[simp] theorem o_fnil : E.ok T sl ob (.u (.fnil b (.t 0)) x) = (x.ok T sl ob ∧ fnilS b (x.val T sl ob)) := by simp [E.ok, C.ok, C.val, fnilS]
@[simp] theorem o_cvi : E.ok T sl ob (.u (.cvi kd (.t 0)) x) = (x.ok T sl ob ∧ cviS kd (x.val T sl ob)) := by simp [E.ok, C.ok, C.val, cviS]
@[simp] theorem o_cvs : E.ok T sl ob (.u (.cvs (.t 0)) x) = (x.ok T sl ob ∧ cvsS (x.val T sl ob)) := by simp [E.ok, C.ok, C.val, cvsS]
@[simp] theorem o_idx : E.ok T sl ob (.b (.idx (.t 0) (.t 1)) x y) = (x.ok T sl ob ∧ y.ok T sl ob ∧ idxS (x.val T sl ob) (y.val T sl ob)) := by simp [E.ok, C.ok, C.val, idxS]
@[simp] theorem o_idxA : E.ok T sl ob (.b (.idxA n (.t 0) (.t 1)) x y) = (x.ok T sl ob ∧ y.ok T sl ob ∧ idxAS n (x.val T sl ob) (y.val T sl ob)) := by simp [E.ok, C.ok, C.val, idxAS]
@[simp] theorem o_idxP : E.ok T sl ob (.b (.idxP k n (.t 0) (.t 1)) x y) = (x.ok T sl ob ∧ y.ok T sl ob ∧ idxPS ob k n (x.val T sl ob) (y.val T sl ob)) := by simp [E.ok, C.ok, C.val, idxPS]
@[simp] theorem o_fldA : E.ok T sl ob (.u (.fldA k n (.t 0)) x) = (x.ok T sl ob ∧ fldAS ob k n (x.val T sl ob)) := by simp [E.ok, C.ok, C.val, fldAS]
@[simp] theorem o_fld : E.ok T sl ob (.u (.fld k n m b (.t 0)) x) = (x.ok T sl ob ∧ fldS k n m b (x.val T sl ob).kids) := by simp [E.ok, C.ok, C.val, fldS]
@[simp] theorem o_ld : E.ok T sl ob (.u (.ld n b (.t 0)) x) = (x.ok T sl ob ∧ ldS ob n b (x.val T sl ob)) := by simp [E.ok, C.ok, C.val, ldS]
@[simp] theorem o_nilc : E.ok T sl ob (.u (.nilc (.t 0)) x) = (x.ok T sl ob ∧ nilcS (x.val T sl ob)) := by simp [E.ok, C.ok, C.val, nilcS]
@[simp] theorem o_lenS : E.ok T sl ob (.u (.lenS (.t 0)) x) = (x.ok T sl ob ∧ lenSS (x.val T sl ob)) := by simp [E.ok, C.ok, C.val, lenSS]
@[simp] theorem o_lenL : E.ok T sl ob (.u (.lenL (.t 0)) x) = (x.ok T sl ob ∧ lenLS ob (x.val T sl ob)) := by simp [E.ok, C.ok, C.val, lenLS]
@[simp] theorem o_slcS0 : E.ok T sl ob (.u (.slcS (.t 0) none none) x) = (x.ok T sl ob ∧ slcSS none none (x.val T sl ob)) := by simp [E.ok, C.ok, C.val, slcSS]
@[simp] theorem o_slcS1 : E.ok T sl ob (.b (.slcS (.t 0) (some (.t 1)) none) x y) = (x.ok T sl ob ∧ y.ok T sl ob ∧ slcSS (some (y.val T sl ob)) none (x.val T sl ob)) := by simp [E.ok, C.ok, C.val, slcSS]
@[simp] theorem o_slcS2 : E.ok T sl ob (.b (.slcS (.t 0) none (some (.t 1))) x y) = (x.ok T sl ob ∧ y.ok T sl ob ∧ slcSS none (some (y.val T sl ob)) (x.val T sl ob)) := by simp [E.ok, C.ok, C.val, slcSS]
@[simp] theorem o_slcS3 : E.ok T sl ob (.t (.slcS (.t 0) (some (.t 1)) (some (.t 2))) x y z) = (x.ok T sl ob ∧ y.ok T sl ob ∧ z.ok T sl ob ∧ slcSS (some (y.val T sl ob)) (some (z.val T sl ob)) (x.val T sl ob)) := by simp [E.ok, C.ok, C.val, slcSS]
@[simp] theorem o_slcL0 : E.ok T sl ob (.u (.slcL n (.t 0) none none) x) = (x.ok T sl ob ∧ slcLS n none none (x.val T sl ob)) := by simp [E.ok, C.ok, C.val, slcLS]
@[simp] theorem o_slcL1 : E.ok T sl ob (.b (.slcL n (.t 0) (some (.t 1)) none) x y) = (x.ok T sl ob ∧ y.ok T sl ob ∧ slcLS n (some (y.val T sl ob)) none (x.val T sl ob)) := by simp [E.ok, C.ok, C.val, slcLS]
@[simp] theorem o_slcL2 : E.ok T sl ob (.b (.slcL n (.t 0) none (some (.t 1))) x y) = (x.ok T sl ob ∧ y.ok T sl ob ∧ slcLS n none (some (y.val T sl ob)) (x.val T sl ob)) := by simp [E.ok, C.ok, C.val, slcLS]
@[simp] theorem o_slcL3 : E.ok T sl ob (.t (.slcL n (.t 0) (some (.t 1)) (some (.t 2))) x y z) = (x.ok T sl ob ∧ y.ok T sl ob ∧ z.ok T sl ob ∧ slcLS n (some (y.val T sl ob)) (some (z.val T sl ob)) (x.val T sl ob)) := by simp [E.ok, C.ok, C.val, slcLS]
@[simp] theorem o_ext : E.ok T sl ob (.u (.ext (.t 0) n) x) = (x.ok T sl ob ∧ extS n (x.val T sl ob)) := by simp [E.ok, C.ok, C.val, extS]
@[simp] theorem o_mki : E.ok T sl ob (.u (.mki n (.t 0)) x) = x.ok T sl ob := by simp [E.ok, C.ok, C.val]
@[simp] theorem o_tas : E.ok T sl ob (.u (.tas n d (.t 0)) x) = (x.ok T sl ob ∧ tasS n d (x.val T sl ob)) := by simp [E.ok, C.ok, C.val, tasS]
-- values
@[simp] theorem pickV_b (b1 b2 : Bool) : pickV (.d (.bool b)) (.d (.bool b1)) (.d (.bool b2)) = .d (.bool (if b then b1 else b2)) := by simp only [pickV]
attribute [simp] pickV_t pickV_f
@[simp] theorem notV_b : notV (.d (.bool b)) = .d (.bool (!b)) := by simp only [notV]
@[simp] theorem notS_b : notS (.d (.bool b)) = True := by simp [notS]
@[simp] theorem negV_i : negV (.d (.int kd i)) = .d (.int kd (kd.wrap (0 - i))) := by simp only [negV]
@[simp] theorem negS_i : negS (.d (.int kd i)) = True := by simp [negS]
@[simp] theorem binV_i : binV o (.d (.int kd i)) (.d (.int kd' i')) = intV o kd i i' := by simp only [binV]
@[simp] theorem binV_s : binV o (.d (.str s)) (.d (.str s')) = strV o s s' := by simp only [binV]
@[simp] theorem intV_add : intV .add kd i i' = .d (.int kd (kd.wrap (i + i'))) := by simp only [intV]
@[simp] theorem intV_sub : intV .sub kd i i' = .d (.int kd (kd.wrap (i - i'))) := by simp only [intV]
@[simp] theorem intV_mul : intV .mul kd i i' = .d (.int kd (kd.wrap (i * i'))) := by simp only [intV]
@[simp] theorem intV_quo : intV .quo kd i i' = .d (.int kd (kd.wrap (i.tdiv i'))) := by simp only [intV]
@[simp] theorem intV_rem : intV .rem kd i i' = .d (.int kd (i.tmod i')) := by simp only [intV]
@[simp] theorem intV_and : intV .and kd i i' = .d (.int kd (bitsI .and kd i i')) := by simp only [intV]
@[simp] theorem intV_or : intV .or kd i i' = .d (.int kd (bitsI .or kd i i')) := by simp only [intV]
@[simp] theorem intV_xor : intV .xor kd i i' = .d (.int kd (bitsI .xor kd i i')) := by simp only [intV]
@[simp] theorem intV_shl : intV .shl kd i i' = .d (.int kd (kd.wrap (i * 2 ^ (min i'.toNat kd.bits)))) := by simp only [intV]
@[simp] theorem intV_shr : intV .shr kd i i' = .d (.int kd (i.fdiv (2 ^ (min i'.toNat kd.bits)))) := by simp only [intV]
@[simp] theorem intV_eql : intV .eql kd i i' = .d (.bool (i == i')) := by simp only [intV]
@[simp] theorem intV_neq : intV .neq kd i i' = .d (.bool (i != i')) := by simp only [intV]
@[simp] theorem intV_lss : intV .lss kd i i' = .d (.bool (decide (i < i'))) := by simp only [intV]
@[simp] theorem intV_leq : intV .leq kd i i' = .d (.bool (decide (i ≤ i'))) := by simp only [intV]
@[simp] theorem intV_gtr : intV .gtr kd i i' = .d (.bool (decide (i' < i))) := by simp only [intV]
@[simp] theorem intV_geq : intV .geq kd i i' = .d (.bool (decide (i' ≤ i))) := by simp only [intV]
@[simp] theorem strV_add : strV .add s s' = .d (.str (s ++ s')) := by simp only [strV]
@[simp] theorem strV_eql : strV .eql s s' = .d (.bool (s == s')) := by simp only [strV]
@[simp] theorem strV_neq : strV .neq s s' = .d (.bool (s != s')) := by simp only [strV]
@[simp] theorem strV_lss : strV .lss s s' = .d (.bool (Op.bytesLess s s')) := by simp only [strV]
def intS (o : BinOp) (i : Int) : Prop := match o with
  | .quo | .rem => i ≠ 0
  | .shl | .shr => 0 ≤ i
  | _ => True
@[simp] theorem binS_i : binS o (.d (.int kd i)) (.d (.int kd i')) = intS o i' := by cases o <;> simp [binS, intS, intK, intV]
@[simp] theorem binS_shl : binS .shl (.d (.int kd i)) (.d (.int kd' i')) = (0 ≤ i') := by simp [binS]
@[simp] theorem binS_shr : binS .shr (.d (.int kd i)) (.d (.int kd' i')) = (0 ≤ i') := by simp [binS]
attribute [simp] intS
@[simp] theorem binS_add : binS .add (.d (.str s)) (.d (.str s')) = (s.length + s'.length ≤ 9223372036854775807) := by simp [binS]
@[simp] theorem binS_eql : binS .eql (.d (.str s)) (.d (.str s')) = True := by simp [binS]
@[simp] theorem binS_neq : binS .neq (.d (.str s)) (.d (.str s')) = True := by simp [binS]
@[simp] theorem binS_lss : binS .lss (.d (.str s)) (.d (.str s')) = True := by simp [binS]
@[simp] theorem beqV_bb (b1 b2 : Bool) : beqV b (.d (.bool b1)) (.d (.bool b2)) = .d (.bool ((b1 == b2) == b)) := by simp only [beqV]
@[simp] theorem beqS_b (b1 b2 : Bool) : beqS b (.d (.bool b1)) (.d (.bool b2)) = True := by simp [beqS]
@[simp] theorem isnilV_n : isnilV b (.d .nili) = .d (.bool b) := by simp only [isnilV]
@[simp] theorem isnilV_i : isnilV b (.iface k v) = .d (.bool (!b)) := by simp only [isnilV]
@[simp] theorem isnilS_n : isnilS b (.d .nili) = True := by simp [isnilS]
@[simp] theorem isnilS_i : isnilS b (.iface k v) = True := by simp [isnilS]
@[simp] theorem isnilV_di : isnilV b (.d (.iface k d)) = .d (.bool (!b)) := by simp only [isnilV]
@[simp] theorem isnilS_di : isnilS b (.d (.iface k d)) = True := by simp [isnilS]
@[simp] theorem pnilV_n : pnilV b (.d .nilp) = .d (.bool b) := by simp only [pnilV]
@[simp] theorem pnilV_r : pnilV b (.d (.ref d)) = .d (.bool (!b)) := by simp only [pnilV]
@[simp] theorem pnilV_p : pnilV b (.ptr j p) = .d (.bool (!b)) := by simp only [pnilV]
@[simp] theorem pnilS_n : pnilS b (.d .nilp) = True := by simp [pnilS]
@[simp] theorem pnilS_r : pnilS b (.d (.ref d)) = True := by simp [pnilS]
@[simp] theorem pnilS_p : pnilS b (.ptr j p) = True := by simp [pnilS]
@[simp] theorem fnilV_n : fnilV b (.d .nilf) = .d (.bool b) := by simp only [fnilV]
@[simp] theorem fnilV_d (l l' : List D) : fnilV b (.d (.fn k l l')) = .d (.bool (!b)) := by simp only [fnilV]
@[simp] theorem fnilV_f (l l' : List V) : fnilV b (.fn k l l') = .d (.bool (!b)) := by simp only [fnilV]
@[simp] theorem fnilS_n : fnilS b (.d .nilf) = True := by simp [fnilS]
@[simp] theorem fnilS_d (l l' : List D) : fnilS b (.d (.fn k l l')) = True := by simp [fnilS]
@[simp] theorem fnilS_f (l l' : List V) : fnilS b (.fn k l l') = True := by simp [fnilS]
@[simp] theorem peqS_p (q : List Nat) : peqS ob b (.ptr k p) (.ptr j q) = (k = j ∧ p = q ∧ ∃ v, atO ob k p = some v) := by simp [peqS]
@[simp] theorem usdV_s : usdV (.sl k n) = .sd k n := by simp only [usdV]
@[simp] theorem usdV_n : usdV (.d .nils) = .d .nilp := by simp only [usdV]
@[simp] theorem usdS_s : usdS ob (.sl k n) = ∃ E sz xs, lookO ob k = some (.arr E sz xs) ∧ sz ≠ 0 ∧ n = xs.length ∧ xs ≠ [] := by simp [usdS]
@[simp] theorem usdS_n : usdS ob (.d .nils) = True := by simp [usdS]
@[simp] theorem cviV_i : cviV kd (.d (.int kd' i)) = .d (.int kd (kd.wrap i)) := by simp only [cviV]
@[simp] theorem cviS_i : cviS kd (.d (.int kd' i)) = True := by simp [cviS]
@[simp] theorem cvsV_s : cvsV (.d (.str s)) = .d (.str s) := by simp only [cvsV]
@[simp] theorem cvsS_s : cvsS (.d (.str s)) = True := by simp [cvsS]
@[simp] theorem idxV_s : idxV (.d (.str s)) (.d (.int kd i)) = .d (.int .u8 (s.getD i.toNat 0).toNat) := by simp only [idxV]
@[simp] theorem idxS_s : idxS (.d (.str s)) (.d (.int kd i)) = (0 ≤ i ∧ i < s.length) := by simp [idxS]
@[simp] theorem idxAV_l : idxAV (.d (.list n xs)) (.d (.int kd i)) = .d (.ref (xs.getD i.toNat default)) := by simp only [idxAV]
@[simp] theorem idxAS_l : idxAS n (.d (.list n xs)) (.d (.int kd i)) = (0 ≤ i ∧ i < xs.length) := by simp [idxAS]
@[simp] theorem idxPV_p : idxPV (.ptr j p) (.d (.int kd i)) = .ptr j (p ++ [i.toNat]) := by simp only [idxPV]
@[simp] theorem idxPV_c : idxPV (.d (.ref (.agg xs))) (.d (.int kd i)) = .d (.ref (xs.getD i.toNat default)) := by simp only [idxPV]
@[simp] theorem idxPS_p : idxPS ob k n (.ptr j p) (.d (.int kd i)) = ((0 ≤ i ∧ i < k) ∧ ∃ ks, kidsO (atO ob j p) = some ks ∧ ks.length = k ∧ ∀ k ∈ ks, k.size = n) := by simp [idxPS]
@[simp] theorem idxPS_c : idxPS ob k n (.d (.ref (.agg xs))) (.d (.int kd i)) = ((0 ≤ i ∧ i < k) ∧ xs.length = k ∧ ∀ x ∈ xs, x.sz = n) := by simp [idxPS]
@[simp] theorem fldAV_p : fldAV k (.ptr j p) = .ptr j (p ++ [k]) := by simp only [fldAV]
@[simp] theorem fldAV_c : fldAV k (.d (.ref (.agg xs))) = .d (.ref (xs.getD k default)) := by simp only [fldAV]
def fldASo (f fo : Nat) : Option (List V) → Prop
  | some ks => f < ks.length ∧ Sh.sizes ((ks.take f).map V.shape) = fo
  | none => False
@[simp] theorem fldASo_s : fldASo k n (some vs) = (k < vs.length ∧ Sh.sizes ((vs.take k).map V.shape) = n) := by simp only [fldASo]
@[simp] theorem fldAS_p : fldAS ob k n (.ptr j p) = fldASo k n (kidsO (atO ob j p)) := by
  simp only [fldAS, fldAK, fldASo]; cases kidsO (atO ob j p) <;> simp [fldAKo]
@[simp] theorem fldAS_c : fldAS ob k n (.d (.ref (.agg xs))) = (k < xs.length ∧ D.szs (xs.take k) = n) := by simp [fldAS]
@[simp] theorem fldV_s : fldV k (some vs) = vs.getD k .any := by simp only [fldV]
@[simp] theorem fldS_s : fldS k j n b (some vs) = (k < vs.length ∧ Sh.sizes ((vs.take k).map V.shape) = j ∧ (vs.getD k .any).size = n ∧ (vs.getD k .any).isAgg = b) := by simp only [fldS, fldK, fldV, and_true]
@[simp] theorem ldVo_s : ldVo (some v) = v := by simp only [ldVo]
@[simp] theorem ldV_p : ldV ob (.ptr j p) = ldVo (atO ob j p) := by simp only [ldV]
@[simp] theorem ldV_c : ldV ob (.d (.ref d)) = .d d := by simp only [ldV]
def ldSo (n : Nat) (b : Bool) : Option V → Prop
  | some v => v.size = n ∧ v.isAgg = b
  | none => False
@[simp] theorem ldSo_s : ldSo n b (some v) = (v.size = n ∧ v.isAgg = b) := by simp only [ldSo]
@[simp] theorem ldS_p : ldS ob n b (.ptr j p) = ldSo n b (atO ob j p) := by
  simp only [ldS, ldK, ldV]; cases atO ob j p <;> simp [ldKo, ldSo, ldVo]
@[simp] theorem ldS_c : ldS ob n b (.d (.ref d)) = (d.sz = n ∧ (V.d d).isAgg = b) := by simp [ldS]
@[simp] theorem nilcS_p : nilcS (.ptr j p) = True := by simp [nilcS]
@[simp] theorem nilcS_c : nilcS (.d (.ref d)) = True := by simp [nilcS]
@[simp] theorem nilcS_df (a1 a2 : List D) : nilcS (.d (.fn j a1 a2)) = True := by simp [nilcS]
@[simp] theorem nilcS_f (a1 a2 : List V) : nilcS (.fn j a1 a2) = True := by simp [nilcS]
@[simp] theorem lenSV_s : lenSV (.d (.str s)) = .d (.int .i64 s.length) := by simp only [lenSV]
@[simp] theorem lenSS_s : lenSS (.d (.str s)) = True := by simp [lenSS]
@[simp] theorem lenLV_l : lenLV (.d (.list n xs)) = .d (.int .i64 xs.length) := by simp only [lenLV]
@[simp] theorem lenLV_n : lenLV (.d .nils) = .d (.int .i64 0) := by simp only [lenLV]
@[simp] theorem lenLV_o : lenLV (.sl j n) = .d (.int .i64 n) := by simp only [lenLV]
@[simp] theorem lenLS_l : lenLS ob (.d (.list n xs)) = True := by simp [lenLS]
@[simp] theorem lenLS_n : lenLS ob (.d .nils) = True := by simp [lenLS]
@[simp] theorem lenLS_o : lenLS ob (.sl j n) = ∃ E z xs, lookO ob j = some (.arr E z xs) ∧ n = xs.length := by simp [lenLS]
@[simp] theorem slcSV_nn : slcSV none none (.d (.str s)) = .d (.str s) := by simp [slcSV, bndV]
@[simp] theorem slcSV_sn : slcSV (some (.d (.int kd i))) none (.d (.str s)) = .d (.str (s.drop i.toNat)) := by simp [slcSV, bndV]
@[simp] theorem slcSV_ns : slcSV none (some (.d (.int kd i))) (.d (.str s)) = .d (.str (s.take i.toNat)) := by simp [slcSV, bndV]
@[simp] theorem slcSV_ss : slcSV (some (.d (.int kd i))) (some (.d (.int kd' i'))) (.d (.str s)) = .d (.str ((s.take i'.toNat).drop i.toNat)) := by simp only [slcSV, bndV]
@[simp] theorem slcSS_nn : slcSS none none (.d (.str s)) = True := by simp [slcSS, slcSV, bndV]
@[simp] theorem slcSS_sn : slcSS (some (.d (.int kd i))) none (.d (.str s)) = (0 ≤ i ∧ i ≤ s.length) := by simp [slcSS, slcSV, bndV]
@[simp] theorem slcSS_ns : slcSS none (some (.d (.int kd i))) (.d (.str s)) = (0 ≤ i ∧ i ≤ s.length) := by simp [slcSS, slcSV, bndV]
@[simp] theorem slcSS_ss : slcSS (some (.d (.int kd i))) (some (.d (.int kd' i'))) (.d (.str s)) = ((0 ≤ i' ∧ i' ≤ s.length) ∧ 0 ≤ i ∧ i ≤ i') := by simp [slcSS, slcSV, bndV]
@[simp] theorem slcLV_nn : slcLV none none (.d (.list n xs)) = .d (.list n xs) := by simp [slcLV, bndV]
@[simp] theorem slcLV_sn : slcLV (some (.d (.int kd i))) none (.d (.list n xs)) = .d (.list n (xs.drop i.toNat)) := by simp [slcLV, bndV]
@[simp] theorem slcLV_ns : slcLV none (some (.d (.int kd i))) (.d (.list n xs)) = .d (.list n (xs.take i.toNat)) := by simp [slcLV, bndV]
@[simp] theorem slcLV_ss : slcLV (some (.d (.int kd i))) (some (.d (.int kd' i'))) (.d (.list n xs)) = .d (.list n ((xs.take i'.toNat).drop i.toNat)) := by simp only [slcLV, bndV]
@[simp] theorem slcLS_nn : slcLS n none none (.d (.list n xs)) = True := by simp [slcLS, slcLV, bndV]
@[simp] theorem slcLS_sn : slcLS n (some (.d (.int kd i))) none (.d (.list n xs)) = (0 ≤ i ∧ i ≤ xs.length) := by simp [slcLS, slcLV, bndV]
@[simp] theorem slcLS_ns : slcLS n none (some (.d (.int kd i))) (.d (.list n xs)) = (0 ≤ i ∧ i ≤ xs.length) := by simp [slcLS, slcLV, bndV]
@[simp] theorem slcLS_ss : slcLS n (some (.d (.int kd i))) (some (.d (.int kd' i'))) (.d (.list n xs)) = ((0 ≤ i' ∧ i' ≤ xs.length) ∧ 0 ≤ i ∧ i ≤ i') := by simp [slcLS, slcLV, bndV]
@[simp] theorem extV_t : extV n (.tup vs) = vs.getD n .any := by simp only [extV]
@[simp] theorem extS_t : extS n (.tup vs) = (n < vs.length) := by simp [extS, extV]
@[simp] theorem tasV_y : tasV k d (.iface k v) = .tup [v, .d (.bool true)] := by simp [tasV]
@[simp] theorem tasV_n : tasV k d (.d .nili) = .tup [.d d, .d (.bool false)] := by simp only [tasV]
@[simp] theorem tasV_dy (d' : D) : tasV k d (.d (.iface k d')) = .tup [.d d', .d (.bool true)] := by simp [tasV]
@[simp] theorem tasV_dn (d' : D) (h : (j == k) = false) : tasV k d (.d (.iface j d')) = .tup [.d d, .d (.bool false)] := by simp at h; simp [tasV, h]
@[simp] theorem tasS_d (d' : D) : tasS k d (.d (.iface j d')) = True := by by_cases h : j = k <;> simp [tasS, tasK, tasV, h]
@[simp] theorem tasS_y : tasS k d (.iface k v) = True := by simp [tasS]
@[simp] theorem tasS_n : tasS k d (.d .nili) = True := by simp [tasS]
@[simp] theorem consV_t : consV v (.tup vs) = .tup (v :: vs) := by simp only [consV]
@[simp] theorem callV_s (F : Fn) : callV (some F) (.tup vs) = F.val vs := by simp only [callV]
@[simp] theorem callP_s (F : Fn) : callP (some F) (.tup vs) = F.pre vs := by simp only [callP]
@[simp] theorem lookT_eq (F : Fn) : lookT ((k, F) :: T) k = some F := by simp [lookT]
@[simp] theorem lookT_ne (F : Fn) (h : (j == k) = false) : lookT ((j, F) :: T) k = lookT T k := by simp at h; simp [lookT, h]
@[simp] theorem isB_b : isB c (.d (.bool b)) = (b == c) := by simp only [isB]
@[simp] theorem boolV_b : boolV (.d (.bool b)) = True := by simp only [boolV]
@[simp] theorem whenV_t : whenV true v = v := by simp [whenV]
@[simp] theorem whenV_f : whenV false v = .undef := by simp [whenV]
@[simp] theorem holdsB_nil : holdsB T sl ob [] = true := by simp [holdsB]
@[simp] theorem holdsB_cons (l : List (E × Bool)) : holdsB T sl ob ((x, b) :: l) = (isB b (x.val T sl ob) && holdsB T sl ob l) := by simp [holdsB]
-- folded statements
@[simp] theorem rwp2_nil (KS : Slots → Objs → Prop) (PS : V → Slots → Objs → Prop) : rwp2 P T KS PS [] sl ob = KS sl ob := by simp only [rwp2]
@[simp] theorem rwp2_chk (KS : Slots → Objs → Prop) (PS : V → Slots → Objs → Prop) (q : List (E × Bool)) (l : List It2) : rwp2 P T KS PS (.chk q x :: l) sl ob = ((holdsB T sl ob q = true → x.ok T sl ob) ∧ rwp2 P T KS PS l sl ob) := by simp only [rwp2]
@[simp] theorem rwp2_lt (KS : Slots → Objs → Prop) (PS : V → Slots → Objs → Prop) (q : List (E × Bool)) (l : List It2) : rwp2 P T KS PS (.lt k q x :: l) sl ob = ((holdsB T sl ob q = true → x.ok T sl ob) ∧ rwp2 P T KS PS l ((k, whenV (holdsB T sl ob q) (x.val T sl ob)) :: sl) ob) := by simp only [rwp2]
@[simp] theorem rwp2_op (KS : Slots → Objs → Prop) (PS : V → Slots → Objs → Prop) (dd : Option Nat) (e : I) (l : List It2) : rwp2 P T KS PS (.op dd e :: l) sl ob = e.wp P sl ob (fun v ob' => rwp2 P T KS PS l (put sl dd v) ob') (fun v ob' => PS v sl ob') := by simp only [rwp2]
@[simp] theorem rwp2_gop (KS : Slots → Objs → Prop) (PS : V → Slots → Objs → Prop) (q : List (E × Bool)) (dd : Option Nat) (e : I) (l : List It2) : rwp2 P T KS PS (.gop q dd e :: l) sl ob = ((holdsB T sl ob q = true → e.wp P sl ob (fun v ob' => rwp2 P T KS PS l (put sl dd v) ob') (fun v ob' => PS v sl ob')) ∧ (holdsB T sl ob q = false → rwp2 P T KS PS l (put sl dd .undef) ob)) := by simp only [rwp2]
@[simp] theorem keepE_nil : keepE T sl ob [] = [] := by simp only [keepE]
@[simp] theorem keepE_cons (l : List (Nat × E)) : keepE T sl ob ((k, x) :: l) = (k, x.val T sl ob) :: keepE T sl ob l := by simp only [keepE]
@[simp] theorem keepOk_nil : keepOk T sl ob [] = True := by simp only [keepOk]
@[simp] theorem keepOk_cons (l : List (Nat × E)) : keepOk T sl ob ((k, x) :: l) = (x.ok T sl ob ∧ keepOk T sl ob l) := by simp only [keepOk]
variable (Q : Post) (s1 s2 : S2)
@[simp] theorem cwp2_rg (l : List It2) (kp : List (Nat × E)) (pk : List Nat) : cwp2 P T (.rg l kp pk) Q sl ob = rwp2 P T (fun sl ob => keepOk T sl ob kp ∧ Q .normal (keepE T sl ob kp) ob) (fun v sl ob => Q (.panic v) (keepS sl pk) ob) l sl ob := by simp only [cwp2]
@[simp] theorem cwp2_seq : cwp2 P T (.seq s1 s2) Q sl ob = cwp2 P T s1 (thenK (cwp2 P T s2 Q) Q) sl ob := by simp only [cwp2]
@[simp] theorem cwp2_skip : cwp2 P T .skip Q sl ob = Q .normal sl ob := by simp only [cwp2]
@[simp] theorem cwp2_cond : cwp2 P T (.cond a s1 s2) Q sl ob = condK (cwp2 P T s1 Q sl ob) (cwp2 P T s2 Q sl ob) (a.ev sl) := by simp only [cwp2]
@[simp] theorem cwp2_block : cwp2 P T (.block n s1) Q sl ob = cwp2 P T s1 (blockK n Q) sl ob := by simp only [cwp2]
@[simp] theorem cwp2_loop (kp : List Nat) : cwp2 P T (.loop kp s1) Q sl ob = ALoop kp (cwp2 P T s1) Q sl ob := by simp only [cwp2]
@[simp] theorem cwp2_exit : cwp2 P T (.exit n) Q sl ob = Q (.exit n) sl ob := by simp only [cwp2]
@[simp] theorem cwp2_ret : cwp2 P T .ret Q sl ob = Q .ret sl ob := by simp only [cwp2]
end
@[congr] theorem rwp2_congr {P : Prg} {T : Tab} {KS : Slots → Objs → Prop} {PS : V → Slots → Objs → Prop} {l : List It2} {sl sl' : Slots} {ob ob' : Objs} (h : sl = sl') (h' : ob = ob') : rwp2 P T KS PS l sl ob = rwp2 P T KS PS l sl' ob' := by rw [h, h']
@[congr] theorem cwp2_congr {P : Prg} {T : Tab} {s : S2} {Q : Post} {sl sl' : Slots} {ob ob' : Objs} (h : sl = sl') (h' : ob = ob') : cwp2 P T s Q sl ob = cwp2 P T s Q sl' ob' := by rw [h, h']
@[congr] theorem E_val_congr {T : Tab} {sl : Slots} {ob : Objs} {e : E} : E.val T sl ob e = E.val T sl ob e := rfl
@[congr] theorem E_ok_congr {T : Tab} {sl : Slots} {ob : Objs} {e : E} : E.ok T sl ob e = E.ok T sl ob e := rfl
end Go.Ab
