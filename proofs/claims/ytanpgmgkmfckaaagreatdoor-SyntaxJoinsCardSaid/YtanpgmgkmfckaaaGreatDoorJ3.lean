/- Texts of this claim joined by a program, part 3 of 7; the last is: Contracts: the parser's small readers. Condition: the program is the seat's. -/
import Derived.Test.YtanpgmgkmfckaaaGreatDoorJ2
import Derived.IntWalk
import Derived.Defers
import Derived.Recover
import Derived.Test.YtanpgmgkmfckaaaGreatDoorProg
import Derived.KernelRfl
set_option linter.unusedSimpArgs false
set_option linter.unusedVariables false
set_option linter.unusedSectionVars false
/- The equations by which folded statements are walked. Over any program; no condition. -/
namespace Go.Ab
open Go

theorem pcall_lift {P : Prg} {p : Program} (hP : P.p = p) (hm : p.follows .mixedOrders = true) {f : Nat} {s : S} {rs : List RV} {ds : List D} {ob0 : Objs} {K : V → Prop} {fs : List Nat} {s2 : S2} {T : Tab} (hc : fnOk p f ds.length s rs = true) (hl : s.lift fs = some s2) (hT : TOk P T)
    (h : cwp2 P T s2 (pureQ rs K) (argS 0 (ds.map .d)) []) : PCall P f (ds.map .d) ob0 K :=
  pcall_fn hP hm hc (S.lift_sound hT s hl (fun _ _ _ h => h) h)

theorem acall_lift {P : Prg} {p : Program} (hP : P.p = p) (hm : p.follows .mixedOrders = true) {f : Nat} {s : S} {rs : List RV} {vs : List V} {ob : Objs} {K : Out → Objs → Prop} {fs : List Nat} {s2 : S2} {T : Tab} (hc : fnOk p f vs.length s rs = true) (hl : s.lift fs = some s2) (hT : TOk P T)
    (h : (∀ kp, V.mens (young (fresh ob) kp) vs = false) → (∀ kp, noMenO (young (fresh ob) kp) ob = true) → cwp2 P T s2 (callQ (fresh ob) rs K) (argS 0 vs) ob) : ACall P f vs ob K :=
  ACall.of_wf fun h1 h2 => by subst hP; exact acall_walk hm hc (S.lift_sound hT s hl (fun _ _ _ h => h) (h h1 h2))

def PFn (P : Prg) (f : Nat) (F : Fn) : Prop := ∀ vs, F.pre vs → ∀ (ob : Objs) (K : V → Prop), K (F.val vs) → PCall P f vs ob K
theorem TOk.nil {P : Prg} : TOk P [] := fun f F h => by simp [lookT] at h
theorem TOk.cons {P : Prg} {T : Tab} {f : Nat} {F : Fn} (h : PFn P f F) (hT : TOk P T) : TOk P ((f, F) :: T) := fun g G hg => by
  simp only [lookT] at hg
  split at hg
  · rename_i e; subst e; cases hg; exact h
  · exact hT g G hg

def notS (v : V) : Prop := notK (fun w => w = notV v) v
def negS (v : V) : Prop := negK (fun w => w = negV v) v
def binS (o : BinOp) (u v : V) : Prop := binK o (fun w => w = binV o u v) u v
def isnilS (e : Bool) (v : V) : Prop := isnilK e (fun w => w = isnilV e v) v
def fnilS (e : Bool) (v : V) : Prop := fnilK e (fun w => w = fnilV e v) v
def usdS (ob : Objs) (v : V) : Prop := usdK ob (fun w => w = usdV v) v
def cviS (k : IntKind) (v : V) : Prop := cviK k (fun w => w = cviV k v) v
def idxS (u v : V) : Prop := idxK (fun w => w = idxV u v) u v
def idxAS (z : Nat) (u v : V) : Prop := idxAK z (fun w => w = idxAV u v) u v
def idxPS (ob : Objs) (n z : Nat) (u v : V) : Prop := idxPK ob n z (fun w => w = idxPV u v) u v
def fldAS (ob : Objs) (f fo : Nat) (v : V) : Prop := fldAK ob f fo (fun w => w = fldAV f v) v
def fldS (f fo n : Nat) (ag : Bool) (v : Option (List V)) : Prop := fldK f fo n ag (fun w => w = fldV f v) v
def ldS (ob : Objs) (n : Nat) (ag : Bool) (v : V) : Prop := ldK ob n ag (fun w => w = ldV ob v) v
def nilcS (v : V) : Prop := nilcK (fun w => w = v) v
def lenSS (v : V) : Prop := lenSK (fun w => w = lenSV v) v
def lenLS (ob : Objs) (v : V) : Prop := lenLK ob (fun w => w = lenLV v) v
def slcSS (l h : Option V) (v : V) : Prop := slcSK l h (fun w => w = slcSV l h v) v
def slcLS (z : Nat) (l h : Option V) (v : V) : Prop := slcLK z l h (fun w => w = slcLV l h v) v
def extS (i : Nat) (v : V) : Prop := extK i (fun w => w = extV i v) v
def tasS (t : Nat) (z : D) (v : V) : Prop := tasK t z (fun w => w = tasV t z v) v

section
variable (P : Prg) (T : Tab) (sl : Slots) (ob : Objs) (x y z : E) (a : A) (u v w : V) (k j n m : Nat) (b c : Bool) (kd kd' : IntKind) (i i' : Int) (s s' : List UInt8) (xs : List D) (vs : List V) (d : D) (o : BinOp) (p : List Nat)
-- what expressions yield
@[simp] theorem v_a : E.val T sl ob (.a a) = a.ev sl := by simp only [E.val]
@[simp] theorem v_ite : E.val T sl ob (.ite x y z) = pickV (x.val T sl ob) (y.val T sl ob) (z.val T sl ob) := by simp only [E.val]
@[simp] theorem v_call : E.val T sl ob (.call k x) = callV (lookT T k) (x.val T sl ob) := by simp only [E.val]
@[simp] theorem v_nil : E.val T sl ob .nil = .tup [] := by simp only [E.val]
@[simp] theorem v_cons : E.val T sl ob (.cons x y) = consV (x.val T sl ob) (y.val T sl ob) := by simp only [E.val]
@[simp] theorem v_not : E.val T sl ob (.u (.not (.t 0)) x) = notV (x.val T sl ob) := by simp [E.val, C.val]
@[simp] theorem v_neg : E.val T sl ob (.u (.neg (.t 0)) x) = negV (x.val T sl ob) := by simp [E.val, C.val]
@[simp] theorem v_bin : E.val T sl ob (.b (.bin o (.t 0) (.t 1)) x y) = binV o (x.val T sl ob) (y.val T sl ob) := by simp [E.val, C.val]
@[simp] theorem v_isnil : E.val T sl ob (.u (.isnil b (.t 0)) x) = isnilV b (x.val T sl ob) := by simp [E.val, C.val]
@[simp] theorem v_fnil : E.val T sl ob (.u (.fnil b (.t 0)) x) = fnilV b (x.val T sl ob) := by simp [E.val, C.val]
@[simp] theorem v_usd : E.val T sl ob (.u (.usd (.t 0)) x) = usdV (x.val T sl ob) := by simp [E.val, C.val]
@[simp] theorem v_cvi : E.val T sl ob (.u (.cvi kd (.t 0)) x) = cviV kd (x.val T sl ob) := by simp [E.val, C.val]
@[simp] theorem v_idx : E.val T sl ob (.b (.idx (.t 0) (.t 1)) x y) = idxV (x.val T sl ob) (y.val T sl ob) := by simp [E.val, C.val]
@[simp] theorem v_idxA : E.val T sl ob (.b (.idxA n (.t 0) (.t 1)) x y) = idxAV (x.val T sl ob) (y.val T sl ob) := by simp [E.val, C.val]
@[simp] theorem v_idxP : E.val T sl ob (.b (.idxP k n (.t 0) (.t 1)) x y) = idxPV (x.val T sl ob) (y.val T sl ob) := by simp [E.val, C.val]
@[simp] theorem v_fldA : E.val T sl ob (.u (.fldA k n (.t 0)) x) = fldAV k (x.val T sl ob) := by simp [E.val, C.val]
@[simp] theorem v_fld : E.val T sl ob (.u (.fld k n m b (.t 0)) x) = fldV k (x.val T sl ob).kids := by simp [E.val, C.val]
@[simp] theorem v_ld : E.val T sl ob (.u (.ld n b (.t 0)) x) = ldV ob (x.val T sl ob) := by simp [E.val, C.val]
@[simp] theorem v_nilc : E.val T sl ob (.u (.nilc (.t 0)) x) = x.val T sl ob := by simp [E.val, C.val]
@[simp] theorem v_lenS : E.val T sl ob (.u (.lenS (.t 0)) x) = lenSV (x.val T sl ob) := by simp [E.val, C.val]
@[simp] theorem v_lenL : E.val T sl ob (.u (.lenL (.t 0)) x) = lenLV (x.val T sl ob) := by simp [E.val, C.val]
@[simp] theorem v_slcS1 : E.val T sl ob (.b (.slcS (.t 0) (some (.t 1)) none) x y) = slcSV (some (y.val T sl ob)) none (x.val T sl ob) := by simp [E.val, C.val]
@[simp] theorem v_slcS2 : E.val T sl ob (.b (.slcS (.t 0) none (some (.t 1))) x y) = slcSV none (some (y.val T sl ob)) (x.val T sl ob) := by simp [E.val, C.val]
@[simp] theorem v_slcS3 : E.val T sl ob (.t (.slcS (.t 0) (some (.t 1)) (some (.t 2))) x y z) = slcSV (some (y.val T sl ob)) (some (z.val T sl ob)) (x.val T sl ob) := by simp [E.val, C.val]
@[simp] theorem v_slcL1 : E.val T sl ob (.b (.slcL n (.t 0) (some (.t 1)) none) x y) = slcLV (some (y.val T sl ob)) none (x.val T sl ob) := by simp [E.val, C.val]
@[simp] theorem v_ext : E.val T sl ob (.u (.ext (.t 0) n) x) = extV n (x.val T sl ob) := by simp [E.val, C.val]
@[simp] theorem v_mki : E.val T sl ob (.u (.mki n (.t 0)) x) = mkiV n (x.val T sl ob) := by simp [E.val, C.val]
@[simp] theorem v_tas : E.val T sl ob (.u (.tas n d (.t 0)) x) = tasV n d (x.val T sl ob) := by simp [E.val, C.val]
-- when expressions are safe
@[simp] theorem o_a : E.ok T sl ob (.a a) = True := by simp only [E.ok]
@[simp] theorem o_ite : E.ok T sl ob (.ite x y z) = (x.ok T sl ob ∧ boolV (x.val T sl ob) ∧ (isB true (x.val T sl ob) = true → y.ok T sl ob) ∧ (isB false (x.val T sl ob) = true → z.ok T sl ob)) := by simp only [E.ok]
@[simp] theorem o_call : E.ok T sl ob (.call k x) = (x.ok T sl ob ∧ callP (lookT T k) (x.val T sl ob)) := by simp only [E.ok]
@[simp] theorem o_nil : E.ok T sl ob .nil = True := by simp only [E.ok]
@[simp] theorem o_cons : E.ok T sl ob (.cons x y) = (x.ok T sl ob ∧ y.ok T sl ob) := by simp only [E.ok]
@[simp] theorem o_not : E.ok T sl ob (.u (.not (.t 0)) x) = (x.ok T sl ob ∧ notS (x.val T sl ob)) := by simp [E.ok, C.ok, C.val, notS]
@[simp] theorem o_neg : E.ok T sl ob (.u (.neg (.t 0)) x) = (x.ok T sl ob ∧ negS (x.val T sl ob)) := by simp [E.ok, C.ok, C.val, negS]
@[simp] theorem o_bin : E.ok T sl ob (.b (.bin o (.t 0) (.t 1)) x y) = (x.ok T sl ob ∧ y.ok T sl ob ∧ binS o (x.val T sl ob) (y.val T sl ob)) := by simp [E.ok, C.ok, C.val, binS]
@[simp] theorem o_usd : E.ok T sl ob (.u (.usd (.t 0)) x) = (x.ok T sl ob ∧ usdS ob (x.val T sl ob)) := by simp [E.ok, C.ok, C.val, usdS]
@[simp] theorem o_isnil : E.ok T sl ob (.u (.isnil b (.t 0)) x) = (x.ok T sl ob ∧ isnilS b (x.val T sl ob)) := by simp [E.ok, C.ok, C.val, isnilS]
@[simp] theorem o_fnil : E.ok T sl ob (.u (.fnil b (.t 0)) x) = (x.ok T sl ob ∧ fnilS b (x.val T sl ob)) := by simp [E.ok, C.ok, C.val, fnilS]
@[simp] theorem o_cvi : E.ok T sl ob (.u (.cvi kd (.t 0)) x) = (x.ok T sl ob ∧ cviS kd (x.val T sl ob)) := by simp [E.ok, C.ok, C.val, cviS]
@[simp] theorem o_idx : E.ok T sl ob (.b (.idx (.t 0) (.t 1)) x y) = (x.ok T sl ob ∧ y.ok T sl ob ∧ idxS (x.val T sl ob) (y.val T sl ob)) := by simp [E.ok, C.ok, C.val, idxS]
@[simp] theorem o_idxA : E.ok T sl ob (.b (.idxA n (.t 0) (.t 1)) x y) = (x.ok T sl ob ∧ y.ok T sl ob ∧ idxAS n (x.val T sl ob) (y.val T sl ob)) := by simp [E.ok, C.ok, C.val, idxAS]
@[simp] theorem o_idxP : E.ok T sl ob (.b (.idxP k n (.t 0) (.t 1)) x y) = (x.ok T sl ob ∧ y.ok T sl ob ∧ idxPS ob k n (x.val T sl ob) (y.val T sl ob)) := by simp [E.ok, C.ok, C.val, idxPS]
@[simp] theorem o_fldA : E.ok T sl ob (.u (.fldA k n (.t 0)) x) = (x.ok T sl ob ∧ fldAS ob k n (x.val T sl ob)) := by simp [E.ok, C.ok, C.val, fldAS]
@[simp] theorem o_fld : E.ok T sl ob (.u (.fld k n m b (.t 0)) x) = (x.ok T sl ob ∧ fldS k n m b (x.val T sl ob).kids) := by simp [E.ok, C.ok, C.val, fldS]
@[simp] theorem o_ld : E.ok T sl ob (.u (.ld n b (.t 0)) x) = (x.ok T sl ob ∧ ldS ob n b (x.val T sl ob)) := by simp [E.ok, C.ok, C.val, ldS]
@[simp] theorem o_nilc : E.ok T sl ob (.u (.nilc (.t 0)) x) = (x.ok T sl ob ∧ nilcS (x.val T sl ob)) := by simp [E.ok, C.ok, C.val, nilcS]
@[simp] theorem o_lenS : E.ok T sl ob (.u (.lenS (.t 0)) x) = (x.ok T sl ob ∧ lenSS (x.val T sl ob)) := by simp [E.ok, C.ok, C.val, lenSS]
@[simp] theorem o_lenL : E.ok T sl ob (.u (.lenL (.t 0)) x) = (x.ok T sl ob ∧ lenLS ob (x.val T sl ob)) := by simp [E.ok, C.ok, C.val, lenLS]
@[simp] theorem o_slcS1 : E.ok T sl ob (.b (.slcS (.t 0) (some (.t 1)) none) x y) = (x.ok T sl ob ∧ y.ok T sl ob ∧ slcSS (some (y.val T sl ob)) none (x.val T sl ob)) := by simp [E.ok, C.ok, C.val, slcSS]
@[simp] theorem o_slcS2 : E.ok T sl ob (.b (.slcS (.t 0) none (some (.t 1))) x y) = (x.ok T sl ob ∧ y.ok T sl ob ∧ slcSS none (some (y.val T sl ob)) (x.val T sl ob)) := by simp [E.ok, C.ok, C.val, slcSS]
@[simp] theorem o_slcS3 : E.ok T sl ob (.t (.slcS (.t 0) (some (.t 1)) (some (.t 2))) x y z) = (x.ok T sl ob ∧ y.ok T sl ob ∧ z.ok T sl ob ∧ slcSS (some (y.val T sl ob)) (some (z.val T sl ob)) (x.val T sl ob)) := by simp [E.ok, C.ok, C.val, slcSS]
@[simp] theorem o_slcL1 : E.ok T sl ob (.b (.slcL n (.t 0) (some (.t 1)) none) x y) = (x.ok T sl ob ∧ y.ok T sl ob ∧ slcLS n (some (y.val T sl ob)) none (x.val T sl ob)) := by simp [E.ok, C.ok, C.val, slcLS]
@[simp] theorem o_ext : E.ok T sl ob (.u (.ext (.t 0) n) x) = (x.ok T sl ob ∧ extS n (x.val T sl ob)) := by simp [E.ok, C.ok, C.val, extS]
@[simp] theorem o_mki : E.ok T sl ob (.u (.mki n (.t 0)) x) = x.ok T sl ob := by simp [E.ok, C.ok, C.val]
@[simp] theorem o_tas : E.ok T sl ob (.u (.tas n d (.t 0)) x) = (x.ok T sl ob ∧ tasS n d (x.val T sl ob)) := by simp [E.ok, C.ok, C.val, tasS]
-- values
@[simp] theorem pickV_b (b1 b2 : Bool) : pickV (.d (.bool b)) (.d (.bool b1)) (.d (.bool b2)) = .d (.bool (if b then b1 else b2)) := by simp only [pickV]
attribute [simp] pickV_t pickV_f
@[simp] theorem notV_b : notV (.d (.bool b)) = .d (.bool (!b)) := by simp only [notV]
@[simp] theorem notS_b : notS (.d (.bool b)) = True := by simp [notS]
@[simp] theorem negV_i : negV (.d (.int kd i)) = .d (.int kd (kd.wrap (0 - i))) := by simp only [negV]
@[simp] theorem negS_i : negS (.d (.int kd i)) = True := by simp [negS]
@[simp] theorem binV_i : binV o (.d (.int kd i)) (.d (.int kd' i')) = intV o kd i i' := by simp only [binV]
@[simp] theorem binV_s : binV o (.d (.str s)) (.d (.str s')) = strV o s s' := by simp only [binV]
@[simp] theorem intV_add : intV .add kd i i' = .d (.int kd (kd.wrap (i + i'))) := by simp only [intV]
@[simp] theorem intV_sub : intV .sub kd i i' = .d (.int kd (kd.wrap (i - i'))) := by simp only [intV]
@[simp] theorem intV_mul : intV .mul kd i i' = .d (.int kd (kd.wrap (i * i'))) := by simp only [intV]
@[simp] theorem intV_eql : intV .eql kd i i' = .d (.bool (i == i')) := by simp only [intV]
@[simp] theorem intV_neq : intV .neq kd i i' = .d (.bool (i != i')) := by simp only [intV]
@[simp] theorem intV_lss : intV .lss kd i i' = .d (.bool (decide (i < i'))) := by simp only [intV]
@[simp] theorem intV_leq : intV .leq kd i i' = .d (.bool (decide (i ≤ i'))) := by simp only [intV]
@[simp] theorem intV_gtr : intV .gtr kd i i' = .d (.bool (decide (i' < i))) := by simp only [intV]
@[simp] theorem intV_geq : intV .geq kd i i' = .d (.bool (decide (i' ≤ i))) := by simp only [intV]
@[simp] theorem strV_add : strV .add s s' = .d (.str (s ++ s')) := by simp only [strV]
@[simp] theorem strV_eql : strV .eql s s' = .d (.bool (s == s')) := by simp only [strV]
@[simp] theorem strV_neq : strV .neq s s' = .d (.bool (s != s')) := by simp only [strV]
def intS (o : BinOp) (i : Int) : Prop := match o with
  | .quo | .rem => i ≠ 0
  | .shl | .shr => 0 ≤ i
  | _ => True
@[simp] theorem binS_i : binS o (.d (.int kd i)) (.d (.int kd i')) = intS o i' := by cases o <;> simp [binS, intS, intK, intV]
attribute [simp] intS
@[simp] theorem binS_add : binS .add (.d (.str s)) (.d (.str s')) = (s.length + s'.length ≤ 9223372036854775807) := by simp [binS]
@[simp] theorem binS_eql : binS .eql (.d (.str s)) (.d (.str s')) = True := by simp [binS]
@[simp] theorem binS_neq : binS .neq (.d (.str s)) (.d (.str s')) = True := by simp [binS]
@[simp] theorem isnilV_n : isnilV b (.d .nili) = .d (.bool b) := by simp only [isnilV]
@[simp] theorem isnilS_n : isnilS b (.d .nili) = True := by simp [isnilS]
@[simp] theorem isnilV_di : isnilV b (.d (.iface k d)) = .d (.bool (!b)) := by simp only [isnilV]
@[simp] theorem isnilS_di : isnilS b (.d (.iface k d)) = True := by simp [isnilS]
@[simp] theorem fnilV_n : fnilV b (.d .nilf) = .d (.bool b) := by simp only [fnilV]
@[simp] theorem fnilV_f (l l' : List V) : fnilV b (.fn k l l') = .d (.bool (!b)) := by simp only [fnilV]
@[simp] theorem fnilS_n : fnilS b (.d .nilf) = True := by simp [fnilS]
@[simp] theorem fnilS_f (l l' : List V) : fnilS b (.fn k l l') = True := by simp [fnilS]
@[simp] theorem usdV_s : usdV (.sl k n) = .sd k n := by simp only [usdV]
@[simp] theorem usdV_n : usdV (.d .nils) = .d .nilp := by simp only [usdV]
@[simp] theorem usdS_s : usdS ob (.sl k n) = ∃ E sz xs, lookO ob k = some (.arr E sz xs) ∧ sz ≠ 0 ∧ n = xs.length ∧ xs ≠ [] := by simp [usdS]
@[simp] theorem usdS_n : usdS ob (.d .nils) = True := by simp [usdS]
@[simp] theorem cviV_i : cviV kd (.d (.int kd' i)) = .d (.int kd (kd.wrap i)) := by simp only [cviV]
@[simp] theorem cviS_i : cviS kd (.d (.int kd' i)) = True := by simp [cviS]
@[simp] theorem idxV_s : idxV (.d (.str s)) (.d (.int kd i)) = .d (.int .u8 (s.getD i.toNat 0).toNat) := by simp only [idxV]
@[simp] theorem idxS_s : idxS (.d (.str s)) (.d (.int kd i)) = (0 ≤ i ∧ i < s.length) := by simp [idxS]
@[simp] theorem idxAV_l : idxAV (.d (.list n xs)) (.d (.int kd i)) = .d (.ref (xs.getD i.toNat default)) := by simp only [idxAV]
@[simp] theorem idxAS_l : idxAS n (.d (.list n xs)) (.d (.int kd i)) = (0 ≤ i ∧ i < xs.length) := by simp [idxAS]
@[simp] theorem idxPV_p : idxPV (.ptr j p) (.d (.int kd i)) = .ptr j (p ++ [i.toNat]) := by simp only [idxPV]
@[simp] theorem idxPV_c : idxPV (.d (.ref (.agg xs))) (.d (.int kd i)) = .d (.ref (xs.getD i.toNat default)) := by simp only [idxPV]
@[simp] theorem idxPS_p : idxPS ob k n (.ptr j p) (.d (.int kd i)) = ((0 ≤ i ∧ i < k) ∧ ∃ ks, kidsO (atO ob j p) = some ks ∧ ks.length = k ∧ ∀ k ∈ ks, k.size = n) := by simp [idxPS]
@[simp] theorem idxPS_c : idxPS ob k n (.d (.ref (.agg xs))) (.d (.int kd i)) = ((0 ≤ i ∧ i < k) ∧ xs.length = k ∧ ∀ x ∈ xs, x.sz = n) := by simp [idxPS]
@[simp] theorem fldAV_p : fldAV k (.ptr j p) = .ptr j (p ++ [k]) := by simp only [fldAV]
@[simp] theorem fldAV_c : fldAV k (.d (.ref (.agg xs))) = .d (.ref (xs.getD k default)) := by simp only [fldAV]
def fldASo (f fo : Nat) : Option (List V) → Prop
  | some ks => f < ks.length ∧ Sh.sizes ((ks.take f).map V.shape) = fo
  | none => False
@[simp] theorem fldASo_s : fldASo k n (some vs) = (k < vs.length ∧ Sh.sizes ((vs.take k).map V.shape) = n) := by simp only [fldASo]
@[simp] theorem fldAS_p : fldAS ob k n (.ptr j p) = fldASo k n (kidsO (atO ob j p)) := by
  simp only [fldAS, fldAK, fldASo]; cases kidsO (atO ob j p) <;> simp [fldAKo]
@[simp] theorem fldAS_c : fldAS ob k n (.d (.ref (.agg xs))) = (k < xs.length ∧ D.szs (xs.take k) = n) := by simp [fldAS]
@[simp] theorem fldV_s : fldV k (some vs) = vs.getD k .any := by simp only [fldV]
@[simp] theorem fldS_s : fldS k j n b (some vs) = (k < vs.length ∧ Sh.sizes ((vs.take k).map V.shape) = j ∧ (vs.getD k .any).size = n ∧ (vs.getD k .any).isAgg = b) := by simp only [fldS, fldK, fldV, and_true]
@[simp] theorem ldVo_s : ldVo (some v) = v := by simp only [ldVo]
@[simp] theorem ldV_p : ldV ob (.ptr j p) = ldVo (atO ob j p) := by simp only [ldV]
@[simp] theorem ldV_c : ldV ob (.d (.ref d)) = .d d := by simp only [ldV]
def ldSo (n : Nat) (b : Bool) : Option V → Prop
  | some v => v.size = n ∧ v.isAgg = b
  | none => False
@[simp] theorem ldSo_s : ldSo n b (some v) = (v.size = n ∧ v.isAgg = b) := by simp only [ldSo]
@[simp] theorem ldS_p : ldS ob n b (.ptr j p) = ldSo n b (atO ob j p) := by
  simp only [ldS, ldK, ldV]; cases atO ob j p <;> simp [ldKo, ldSo, ldVo]
@[simp] theorem ldS_c : ldS ob n b (.d (.ref d)) = (d.sz = n ∧ (V.d d).isAgg = b) := by simp [ldS]
@[simp] theorem nilcS_p : nilcS (.ptr j p) = True := by simp [nilcS]
@[simp] theorem nilcS_c : nilcS (.d (.ref d)) = True := by simp [nilcS]
@[simp] theorem lenSV_s : lenSV (.d (.str s)) = .d (.int .i64 s.length) := by simp only [lenSV]
@[simp] theorem lenSS_s : lenSS (.d (.str s)) = True := by simp [lenSS]
@[simp] theorem lenLV_l : lenLV (.d (.list n xs)) = .d (.int .i64 xs.length) := by simp only [lenLV]
@[simp] theorem lenLV_n : lenLV (.d .nils) = .d (.int .i64 0) := by simp only [lenLV]
@[simp] theorem lenLV_o : lenLV (.sl j n) = .d (.int .i64 n) := by simp only [lenLV]
@[simp] theorem lenLS_l : lenLS ob (.d (.list n xs)) = True := by simp [lenLS]
@[simp] theorem lenLS_n : lenLS ob (.d .nils) = True := by simp [lenLS]
@[simp] theorem lenLS_o : lenLS ob (.sl j n) = ∃ E z xs, lookO ob j = some (.arr E z xs) ∧ n = xs.length := by simp [lenLS]
@[simp] theorem slcSV_sn : slcSV (some (.d (.int kd i))) none (.d (.str s)) = .d (.str (s.drop i.toNat)) := by simp [slcSV, bndV]
@[simp] theorem slcSV_ns : slcSV none (some (.d (.int kd i))) (.d (.str s)) = .d (.str (s.take i.toNat)) := by simp [slcSV, bndV]
@[simp] theorem slcSV_ss : slcSV (some (.d (.int kd i))) (some (.d (.int kd' i'))) (.d (.str s)) = .d (.str ((s.take i'.toNat).drop i.toNat)) := by simp only [slcSV, bndV]
@[simp] theorem slcSS_sn : slcSS (some (.d (.int kd i))) none (.d (.str s)) = (0 ≤ i ∧ i ≤ s.length) := by simp [slcSS, slcSV, bndV]
@[simp] theorem slcSS_ns : slcSS none (some (.d (.int kd i))) (.d (.str s)) = (0 ≤ i ∧ i ≤ s.length) := by simp [slcSS, slcSV, bndV]
@[simp] theorem slcSS_ss : slcSS (some (.d (.int kd i))) (some (.d (.int kd' i'))) (.d (.str s)) = ((0 ≤ i' ∧ i' ≤ s.length) ∧ 0 ≤ i ∧ i ≤ i') := by simp [slcSS, slcSV, bndV]
@[simp] theorem slcLV_sn : slcLV (some (.d (.int kd i))) none (.d (.list n xs)) = .d (.list n (xs.drop i.toNat)) := by simp [slcLV, bndV]
@[simp] theorem slcLS_sn : slcLS n (some (.d (.int kd i))) none (.d (.list n xs)) = (0 ≤ i ∧ i ≤ xs.length) := by simp [slcLS, slcLV, bndV]
@[simp] theorem extV_t : extV n (.tup vs) = vs.getD n .any := by simp only [extV]
@[simp] theorem extS_t : extS n (.tup vs) = (n < vs.length) := by simp [extS, extV]
@[simp] theorem tasV_dy (d' : D) : tasV k d (.d (.iface k d')) = .tup [.d d', .d (.bool true)] := by simp [tasV]
@[simp] theorem tasS_d (d' : D) : tasS k d (.d (.iface j d')) = True := by by_cases h : j = k <;> simp [tasS, tasK, tasV, h]
@[simp] theorem consV_t : consV v (.tup vs) = .tup (v :: vs) := by simp only [consV]
@[simp] theorem callV_s (F : Fn) : callV (some F) (.tup vs) = F.val vs := by simp only [callV]
@[simp] theorem callP_s (F : Fn) : callP (some F) (.tup vs) = F.pre vs := by simp only [callP]
@[simp] theorem lookT_eq (F : Fn) : lookT ((k, F) :: T) k = some F := by simp [lookT]
@[simp] theorem lookT_ne (F : Fn) (h : (j == k) = false) : lookT ((j, F) :: T) k = lookT T k := by simp at h; simp [lookT, h]
@[simp] theorem isB_b : isB c (.d (.bool b)) = (b == c) := by simp only [isB]
@[simp] theorem boolV_b : boolV (.d (.bool b)) = True := by simp only [boolV]
@[simp] theorem whenV_t : whenV true v = v := by simp [whenV]
@[simp] theorem whenV_f : whenV false v = .undef := by simp [whenV]
@[simp] theorem holdsB_nil : holdsB T sl ob [] = true := by simp [holdsB]
@[simp] theorem holdsB_cons (l : List (E × Bool)) : holdsB T sl ob ((x, b) :: l) = (isB b (x.val T sl ob) && holdsB T sl ob l) := by simp [holdsB]
-- folded statements
@[simp] theorem zs (KS : Slots → Objs → Prop) (PS : V → Slots → Objs → Prop) : rwp2 P T KS PS [] sl ob = KS sl ob := by simp only [rwp2]
@[simp] theorem zp (KS : Slots → Objs → Prop) (PS : V → Slots → Objs → Prop) (q : List (E × Bool)) (l : List It2) : rwp2 P T KS PS (.chk q x :: l) sl ob = ((holdsB T sl ob q = true → x.ok T sl ob) ∧ rwp2 P T KS PS l sl ob) := by simp only [rwp2]
@[simp] theorem zr (KS : Slots → Objs → Prop) (PS : V → Slots → Objs → Prop) (q : List (E × Bool)) (l : List It2) : rwp2 P T KS PS (.lt k q x :: l) sl ob = ((holdsB T sl ob q = true → x.ok T sl ob) ∧ rwp2 P T KS PS l ((k, whenV (holdsB T sl ob q) (x.val T sl ob)) :: sl) ob) := by simp only [rwp2]
@[simp] theorem zt (KS : Slots → Objs → Prop) (PS : V → Slots → Objs → Prop) (dd : Option Nat) (e : I) (l : List It2) : rwp2 P T KS PS (.op dd e :: l) sl ob = e.wp P sl ob (fun v ob' => rwp2 P T KS PS l (put sl dd v) ob') (fun v ob' => PS v sl ob') := by simp only [rwp2]
@[simp] theorem zq (KS : Slots → Objs → Prop) (PS : V → Slots → Objs → Prop) (q : List (E × Bool)) (dd : Option Nat) (e : I) (l : List It2) : rwp2 P T KS PS (.gop q dd e :: l) sl ob = ((holdsB T sl ob q = true → e.wp P sl ob (fun v ob' => rwp2 P T KS PS l (put sl dd v) ob') (fun v ob' => PS v sl ob')) ∧ (holdsB T sl ob q = false → rwp2 P T KS PS l (put sl dd .undef) ob)) := by simp only [rwp2]
@[simp] theorem keepE_nil : keepE T sl ob [] = [] := by simp only [keepE]
@[simp] theorem keepE_cons (l : List (Nat × E)) : keepE T sl ob ((k, x) :: l) = (k, x.val T sl ob) :: keepE T sl ob l := by simp only [keepE]
@[simp] theorem keepOk_nil : keepOk T sl ob [] = True := by simp only [keepOk]
@[simp] theorem keepOk_cons (l : List (Nat × E)) : keepOk T sl ob ((k, x) :: l) = (x.ok T sl ob ∧ keepOk T sl ob l) := by simp only [keepOk]
variable (Q : Post) (s1 s2 : S2)
@[simp] theorem ql (l : List It2) (kp : List (Nat × E)) (pk : List Nat) : cwp2 P T (.rg l kp pk) Q sl ob = rwp2 P T (fun sl ob => keepOk T sl ob kp ∧ Q .normal (keepE T sl ob kp) ob) (fun v sl ob => Q (.panic v) (keepS sl pk) ob) l sl ob := by simp only [cwp2]
@[simp] theorem qn : cwp2 P T (.seq s1 s2) Q sl ob = cwp2 P T s1 (thenK (cwp2 P T s2 Q) Q) sl ob := by simp only [cwp2]
@[simp] theorem qo : cwp2 P T .skip Q sl ob = Q .normal sl ob := by simp only [cwp2]
@[simp] theorem qi : cwp2 P T (.cond a s1 s2) Q sl ob = condK (cwp2 P T s1 Q sl ob) (cwp2 P T s2 Q sl ob) (a.ev sl) := by simp only [cwp2]
@[simp] theorem qh : cwp2 P T (.block n s1) Q sl ob = cwp2 P T s1 (blockK n Q) sl ob := by simp only [cwp2]
@[simp] theorem cwp2_loop (kp : List Nat) : cwp2 P T (.loop kp s1) Q sl ob = ALoop kp (cwp2 P T s1) Q sl ob := by simp only [cwp2]
@[simp] theorem qj : cwp2 P T (.exit n) Q sl ob = Q (.exit n) sl ob := by simp only [cwp2]
@[simp] theorem qk : cwp2 P T .ret Q sl ob = Q .ret sl ob := by simp only [cwp2]
end
@[congr] theorem rwp2_congr {P : Prg} {T : Tab} {KS : Slots → Objs → Prop} {PS : V → Slots → Objs → Prop} {l : List It2} {sl sl' : Slots} {ob ob' : Objs} (h : sl = sl') (h' : ob = ob') : rwp2 P T KS PS l sl ob = rwp2 P T KS PS l sl' ob' := by rw [h, h']
@[congr] theorem cwp2_congr {P : Prg} {T : Tab} {s : S2} {Q : Post} {sl sl' : Slots} {ob ob' : Objs} (h : sl = sl') (h' : ob = ob') : cwp2 P T s Q sl ob = cwp2 P T s Q sl' ob' := by rw [h, h']
@[congr] theorem E_val_congr {T : Tab} {sl : Slots} {ob : Objs} {e : E} : E.val T sl ob e = E.val T sl ob e := rfl
@[congr] theorem E_ok_congr {T : Tab} {sl : Slots} {ob : Objs} {e : E} : E.ok T sl ob e = E.ok T sl ob e := rfl
end Go.Ab
/- Objects lent to a call that only reads: it sees them as data. Over any program; no condition. -/
namespace Go.Ab
open Go

def seqO {α β : Type} (f : α → Option β) : List α → Option (List β)
  | [] => some []
  | x :: r => match f x with
    | some y => match seqO f r with
      | some l => some (y :: l)
      | none => none
    | none => none
def lentO (k : Nat) : Option Ob → Option D
  | some (.arr _ sz xs) => if sz ≠ 0 ∧ k = xs.length then some (.list sz xs) else none
  | _ => none
def refO (f : V → Option D) : Option V → Option D
  | some t => (f t).map .ref
  | none => none
def V.toD (ob : Objs) : Nat → V → Option D
  | 0, _ => none
  | _ + 1, .d x => some x
  | n + 1, .ptr id p => refO (V.toD ob n) (atO ob id p)
  | _ + 1, .sl id k => lentO k (lookO ob id)
  | n + 1, .fn f fi ca => match seqO (V.toD ob n) fi, seqO (V.toD ob n) ca with
    | some l, some m => some (.fn f l m)
    | _, _ => none
  | n + 1, .agg xs => (seqO (V.toD ob n) xs).map .agg
  | n + 1, .iface t x => (V.toD ob n x).map (.iface t)
  | _ + 1, _ => none
def V.toDs (ob : Objs) (n : Nat) (vs : List V) : Option (List D) := seqO (V.toD ob n) vs

mutual
def D.flat : D → Bool
  | .agg xs => D.flats xs
  | .list _ _ | .ref _ | .fn _ _ _ | .iface _ _ => false
  | _ => true
def D.flats : List D → Bool
  | [] => true
  | x :: r => x.flat && D.flats r
end
def V.flat : V → Bool
  | .d x => x.flat
  | _ => false
def V.flatR : V → Bool
  | .d x => x.flat
  | .tup xs => xs.all V.flat
  | _ => false

section
variable {w : World} {ρ : Env} {ob : Objs}
def noOw : Nat → Prop := fun _ => False
theorem mono_no : Mono w (own ρ) w noOw := fun _ _ _ => ⟨rfl, fun h => h⟩

mutual
theorem D.flat_rep {ow ow' : Nat → Prop} : ∀ (x : D) (cs : List Value), x.flat = true → x.rep w ow cs → x.rep w ow' cs
  | .int _ _, _, _, h | .bool _, _, _, h | .str _, _, _, h | .nils, _, _, h | .nili, _, _, h | .nilp, _, _, h | .nilf, _, _, h | .nilm, _, _, h => by simpa only [D.rep] using h
  | .agg xs, cs, hf, h => by simp only [D.rep] at h ⊢; simp only [D.flat] at hf; exact D.flats_rep xs cs hf h
  | .list _ _, _, hf, _ | .ref _, _, hf, _ | .fn _ _ _, _, hf, _ | .iface _ _, _, hf, _ => by simp [D.flat] at hf
theorem D.flats_rep {ow ow' : Nat → Prop} : ∀ (xs : List D) (cs : List Value), D.flats xs = true → D.repL w ow xs cs → D.repL w ow' xs cs
  | [], _, _, h => by simpa only [D.repL] using h
  | x :: r, cs, hf, h => by
    simp only [D.repL] at h ⊢
    simp only [D.flats, Bool.and_eq_true] at hf
    obtain ⟨c1, c2, e, h1, h2⟩ := h
    exact ⟨c1, c2, e, D.flat_rep x c1 hf.1 h1, D.flats_rep r c2 hf.2 h2⟩
end
theorem V.flat_rep {ρ' : Env} {v : V} {u : Value} (hf : v.flat = true) (h : v.rep w ρ u) : v.rep w ρ' u := by
  cases v with
  | d x =>
    simp only [V.flat] at hf
    rw [rep_d] at h ⊢
    rcases h with ⟨a, ds, e, r⟩ | ⟨a, r⟩
    · exact .inl ⟨a, ds, e, D.flat_rep x ds hf r⟩
    · exact .inr ⟨a, D.flat_rep x _ hf r⟩
  | _ => simp [V.flat] at hf
theorem V.flats_rep {ρ' : Env} : ∀ {vs : List V} {us : List Value}, vs.all V.flat = true → V.reps w ρ vs us → V.reps w ρ' vs us
  | [], _, _, h => by simpa only [V.reps] using h
  | v :: r, us, hf, h => by
    simp only [List.all_cons, Bool.and_eq_true] at hf
    simp only [V.reps] at h ⊢
    obtain ⟨u, us', e, h1, h2⟩ := h
    exact ⟨u, us', e, V.flat_rep (ρ := ρ) (u := u) hf.1 h1, V.flats_rep hf.2 h2⟩
theorem V.flatR_rep {ρ' : Env} {v : V} {u : Value} (hf : v.flatR = true) (h : v.rep w ρ u) : v.rep w ρ' u := by
  cases v with
  | d x => exact V.flat_rep (v := .d x) hf h
  | tup xs =>
    rw [rep_tup] at h ⊢
    obtain ⟨vs, e, h⟩ := h
    exact ⟨vs, e, V.flats_rep hf h⟩
  | _ => simp [V.flatR] at hf

theorem toD_sound (hO : OM w ρ ob) : ∀ (n : Nat) (v : V) (cs : List Value) (y : D), v.repC w ρ cs → V.toD ob n v = some y → y.rep w noOw cs ∧ y.isAgg = v.isAgg := by
  intro n
  induction n with
  | zero => intro v cs y _ h; simp [V.toD] at h
  | succ n ih =>
    have ihT : ∀ (v : V) (u : Value) (y : D), v.rep w ρ u → V.toD ob n v = some y → (y.isAgg = true ∧ ∃ ds, u = .agg ds.toArray ∧ y.rep w noOw ds) ∨ (y.isAgg = false ∧ y.rep w noOw [u]) := by
      intro v u y h e
      rcases h with h | ⟨a, ds, q, r⟩ | ⟨a, r⟩
      · subst h; cases n <;> simp [V.toD] at e
      · obtain ⟨h1, h2⟩ := ih v ds y r e; exact .inl ⟨h2.trans a, ds, q, h1⟩
      · obtain ⟨h1, h2⟩ := ih v _ y r e; exact .inr ⟨h2.trans a, h1⟩
    have seqT : ∀ (vs : List V) (us : List Value) (l : List D), V.reps w ρ vs us → seqO (V.toD ob n) vs = some l → D.repT w noOw l us := by
      intro vs
      induction vs with
      | nil => intro us l h e; simp only [seqO] at e; cases e; simpa only [V.reps, D.repT] using h
      | cons v r ihr =>
        intro us l h e
        simp only [V.reps] at h
        obtain ⟨u, us', rfl, h1, h2⟩ := h
        simp only [seqO] at e
        split at e
        · rename_i y hy
          split at e
          · rename_i l' hl; cases e
            simp only [D.repT]
            exact ⟨u, us', rfl, ihT v u y h1 hy, ihr us' l' h2 hl⟩
          · cases e
        · cases e
    have seqC : ∀ (vs : List V) (cs : List Value) (l : List D), V.repCs w ρ vs cs → seqO (V.toD ob n) vs = some l → D.repL w noOw l cs := by
      intro vs
      induction vs with
      | nil => intro us l h e; simp only [seqO] at e; cases e; simpa only [V.repCs, D.repL] using h
      | cons v r ihr =>
        intro cs l h e
        simp only [V.repCs] at h
        obtain ⟨c1, c2, rfl, h1, h2⟩ := h
        simp only [seqO] at e
        split at e
        · rename_i y hy
          split at e
          · rename_i l' hl; cases e
            simp only [D.repL]
            exact ⟨c1, c2, rfl, (ih v c1 y h1 hy).1, ihr c2 l' h2 hl⟩
          · cases e
        · cases e
    intro v cs y h e
    cases v with
    | d x =>
      simp only [V.toD] at e; cases e
      simp only [V.repC] at h
      exact ⟨D.rep_mono mono_no _ _ h, by cases y <;> rfl⟩
    | ptr id p =>
      simp only [V.toD] at e
      cases hat : atO ob id p with
      | none => rw [hat] at e; simp only [refO] at e; cases e
      | some t =>
        simp only [hat, refO, Option.map_eq_some_iff] at e
        obtain ⟨z, hz, rfl⟩ := e
        obtain ⟨t0, b, cs0, E, g1, g2, g3, g4, g5⟩ := box_of hO hat
        have hr : (V.ptr id p).rep w ρ (cs.headD undef) := by
          have hl := V.repC_len _ _ h
          simp [V.shape, Sh.size] at hl
          obtain ⟨c, rfl⟩ := List.length_eq_one_iff.1 hl
          exact .inr (.inr ⟨rfl, by simpa using h⟩)
        obtain ⟨b', sh, hρ, hu⟩ := rep_ptr_box hO g1 hr
        rw [g3] at hρ; cases hρ
        have hl := V.repC_len _ _ h
        simp [V.shape, Sh.size] at hl
        obtain ⟨c, rfl⟩ := List.length_eq_one_iff.1 hl
        simp only [List.headD_cons] at hu
        subst hu
        obtain ⟨c1, c2, c3, e1, e2, h5⟩ := V.repC_at p t0 t cs0 g5 g2
        refine ⟨?_, rfl⟩
        simp only [D.rep]
        refine ⟨_, c2, rfl, rfl, ⟨fun _ => ⟨rfl, fun h => h, lt_of_some g4⟩, fun i hi => ?_⟩, (ih t c2 z h5 hz).1⟩
        rw [← e2]
        simp [World.cell?, g4, e1, List.getElem?_append, hi]
    | sl id k =>
      simp only [V.toD] at e
      unfold lentO at e
      split at e
      · rename_i E sz xs hl
        split at e
        · rename_i hc; cases e
          obtain ⟨hsz, rfl⟩ := hc
          simp only [V.repC] at h
          obtain ⟨o, u, h1, rfl, h2⟩ := h
          have := give_arr hO hl hsz (u := u) (by rw [rep_sl]; exact ⟨o, h1, h2⟩)
          rw [rep_leaf (by simp [V.isAgg]) (by simp)] at this
          simp only [V.repC] at this
          exact ⟨D.rep_mono (ow' := noOw) (fun _ _ _ => ⟨rfl, fun h => h⟩) _ _ this, rfl⟩
        · cases e
      · cases e
    | fn f fi ca =>
      simp only [V.toD] at e
      split at e
      · rename_i l m hl hm
        cases e
        simp only [V.repC] at h
        obtain ⟨fs, gs, e1, h1, h2⟩ := h
        exact ⟨by simp only [D.rep]; exact ⟨fs, gs, e1, seqT fi fs l h1 hl, seqT ca gs m h2 hm⟩, rfl⟩
      · cases e
    | agg xs =>
      simp only [V.toD, Option.map_eq_some_iff] at e
      obtain ⟨l, hl, rfl⟩ := e
      simp only [V.repC] at h
      exact ⟨by simp only [D.rep]; exact seqC xs cs l h hl, rfl⟩
    | iface t x =>
      simp only [V.toD, Option.map_eq_some_iff] at e
      obtain ⟨z, hz, rfl⟩ := e
      simp only [V.repC] at h
      obtain ⟨u, e1, h1⟩ := h
      exact ⟨by simp only [D.rep]; exact ⟨u, e1, ihT x u z h1 hz⟩, rfl⟩
    | _ => simp [V.toD] at e

theorem toDs_sound (hO : OM w ρ ob) {n : Nat} : ∀ (vs : List V) (us : List Value) (l : List D), V.reps w ρ vs us → V.toDs ob n vs = some l → D.repT w noOw l us
  | [], us, l, h, e => by simp only [V.toDs, seqO] at e; cases e; simpa only [V.reps, D.repT] using h
  | v :: r, us, l, h, e => by
    simp only [V.reps] at h
    obtain ⟨u, us', rfl, h1, h2⟩ := h
    simp only [V.toDs, seqO] at e
    split at e
    · rename_i y hy
      split at e
      · rename_i l' hl; cases e
        simp only [D.repT]
        refine ⟨u, us', rfl, ?_, toDs_sound hO r us' l' h2 hl⟩
        rcases h1 with h | ⟨a, ds, q, r⟩ | ⟨a, r⟩
        · subst h; cases n <;> simp [V.toD] at hy
        · obtain ⟨h1, h2⟩ := toD_sound hO n v ds y r hy; exact .inl ⟨h2.trans a, ds, q, h1⟩
        · obtain ⟨h1, h2⟩ := toD_sound hO n v _ y r hy; exact .inr ⟨h2.trans a, h1⟩
      · cases e
    · cases e

theorem PCall.borrow {P : Prg} {f n : Nat} {vs : List V} {ds : List D} {K : V → Prop} (hd : V.toDs ob n vs = some ds) (h : PCall P f (ds.map .d) [] fun v => v.flatR = true ∧ K v) : PCall P f vs ob K := by
  refine ⟨fun w ρ args hO hg hr => ?_⟩
  let ρ0 : Env := ⟨fun _ => none, noOw, ρ.gl⟩
  have hno : ∀ b, ¬ own ρ0 b := fun b h => h.elim (fun ⟨_, _, h, _⟩ => by cases h) (fun h => h)
  have hO0 : OM w ρ0 [] := ⟨fun j x hx => (by simp [lookO] at hx), fun j o hj => (by cases hj), fun i j o p b hi => (by cases hi), fun b hb => hb.elim, fun b o hb => ⟨(hO.glb b o hb).1, hno b⟩, fun b hb => absurd (.inl hb) (hno b), trivial⟩
  have hr0 : V.reps w ρ0 (ds.map .d) args := by
    rw [reps_d]
    have := toDs_sound hO vs args ds hr hd
    exact D.repT_mono (ow := noOw) (fun _ _ _ => ⟨rfl, hno _⟩) _ _ this
  refine (h.run w ρ0 args hO0 hg hr0).mono fun e w' ⟨v, u, ⟨k1, k2⟩, he, r, x⟩ => ⟨v, u, k2, he, V.flatR_rep k1 r, x⟩
theorem PCall.data {P : Prg} {f : Nat} {vs : List V} {ds : List D} {K : V → Prop} (hd : vs = ds.map .d) (h : PCall P f (ds.map .d) ob K) : PCall P f vs ob K := by subst hd; exact h
end

section
variable (ob : Objs) (n k f : Nat) (x : D) (v : V) (vs : List V) (p : List Nat)
@[simp] theorem toD_d : V.toD ob (n + 1) (.d x) = some x := by simp only [V.toD]
@[simp] theorem toD_ptr : V.toD ob (n + 1) (.ptr k p) = refO (V.toD ob n) (atO ob k p) := by simp only [V.toD]
@[simp] theorem toD_sl (m : Nat) : V.toD ob (n + 1) (.sl k m) = lentO m (lookO ob k) := by simp only [V.toD]
@[simp] theorem lentO_s (m E sz : Nat) (xs : List D) : lentO m (some (.arr E sz xs)) = if sz ≠ 0 ∧ m = xs.length then some (.list sz xs) else none := by simp only [lentO]
@[simp] theorem refO_s (g : V → Option D) : refO g (some v) = (g v).map .ref := by simp only [refO]
def fnO (f : Nat) : Option (List D) → Option (List D) → Option D
  | some l, some m => some (.fn f l m)
  | _, _ => none
@[simp] theorem toD_fn (l l' : List V) : V.toD ob (n + 1) (.fn f l l') = fnO f (seqO (V.toD ob n) l) (seqO (V.toD ob n) l') := by
  simp only [V.toD]; cases seqO (V.toD ob n) l <;> cases seqO (V.toD ob n) l' <;> rfl
@[simp] theorem fnO_ss (l l' : List D) : fnO f (some l) (some l') = some (.fn f l l') := by simp only [fnO]
@[simp] theorem toD_agg : V.toD ob (n + 1) (.agg vs) = (seqO (V.toD ob n) vs).map .agg := by simp only [V.toD]
@[simp] theorem toDs_eq : V.toDs ob n vs = seqO (V.toD ob n) vs := by simp only [V.toDs]
@[simp] theorem seqO_nil {α β : Type} (g : α → Option β) : seqO g [] = some [] := by simp only [seqO]
def seqC {β : Type} : Option β → Option (List β) → Option (List β)
  | some y, some l => some (y :: l)
  | _, _ => none
@[simp] theorem seqO_cons {α β : Type} (g : α → Option β) (a : α) (l : List α) : seqO g (a :: l) = seqC (g a) (seqO g l) := by
  simp only [seqO]; cases g a <;> cases seqO g l <;> rfl
@[simp] theorem seqC_ss {β : Type} (y : β) (l : List β) : seqC (some y) (some l) = some (y :: l) := by simp only [seqC]
end
attribute [simp] D.flat D.flats V.flat V.flatR
end Go.Ab
/- Functions that defer a call, and deferred functions that recover. Over any program; no condition. -/
namespace Go.Ab
open Go


structure DCall (P : Prg) (f : Nat) (vs : List V) (ob : Objs) (rv : Option V) (K : Objs → Prop) : Prop where
  ret : rv = none → ∀ w ρ args, OM w ρ ob → ρ.gl = P.g → V.reps w ρ vs args → CallsD P.p f args.toArray .returning w (fun e u w' => (∃ v, e = .returned v) ∧ u = .returning ∧ ∃ ob' ρ', K ob' ∧ OM w' ρ' ob' ∧ Tr w ρ w' ρ')
  pan : ∀ v, rv = some v → ∀ w ρ args x, OM w ρ ob → ρ.gl = P.g → V.reps w ρ vs args → v.rep w ρ x → (∃ t y, x = .iface t y) → CallsD P.p f args.toArray (.panicking [{ v := x, recovered := false }]) w
    (fun e u w' => (∃ v, e = .returned v) ∧ u = .panicking [{ v := x, recovered := true }] ∧ ∃ ob' ρ', K ob' ∧ OM w' ρ' ob' ∧ Tr w ρ w' ρ')

def recOp : Op → Bool
  | .call { callee := .builtin .recover, .. } => true
  | _ => false
def dfnOk (P : Program) (f n k : Nat) (its : List It) (s : S) : Bool := match P.funcs[f]? with
  | some fn => match fn.body with
    | some (.seq (.region _ ops false) code) => match ops.toList with
      | o :: os => decide (n ≤ fn.ntmps) && decide (k < fn.ntmps) && recOp o.op && o.dst == some k && o.guard.isNone && chkIts P fn.ntmps ops os its && S.chk P fn.ntmps code s && fn.results.isEmpty
      | [] => false
    | _ => false
  | none => false

def dQ (n : Nat) (K : Objs → Prop) : Post
  | .normal, _, ob => leaveK n K [] ob
  | .ret, _, ob => leaveK n K [] ob
  | .panic _, _, _ => False
  | .exit _, _, _ => False

theorem listS_sound {P : Prg} {c : Ctx} (hg : P.g = c.g) {xo : Nat → Prop} {ops : Array Oper} {cs : List Frame} {Q : Exit → Act → List Frame → World → Prop} {K : Slots → Objs → Prop}
    (hK : ∀ sl ob ρ a w, K sl ob → Mod c xo ρ sl ob a w → Q .normal a cs w) :
    ∀ (l : List Oper) (j : Nat) (its : List It) (sl : Slots) (ob : Objs) (ρ : Env) (a : Act) (w : World), ops.toList.drop j = l → chkIts P.p c.N ops l its = true → rwp P K (fun _ _ _ => False) its sl ob → Mod c xo ρ sl ob a w → wpOpsS P.p ops Q (List.range' j l.length) a cs w
  | [], j, [], sl, ob, ρ, a, w, _, _, h, m => by simp only [List.length_nil, List.range'_zero, wpOpsS]; exact hK sl ob ρ a w h m
  | o :: r, j, i :: s, sl, ob, ρ, a, w, hd, hc, h, m => by
    simp only [chkIts, Bool.and_eq_true] at hc
    obtain ⟨h1, h2⟩ := hc
    have hj : ops[j]? = some o := by
      have := congrArg (·[0]?) hd
      simpa using this
    have hd' : ops.toList.drop (j + 1) = r := by
      have := congrArg (List.drop 1) hd
      simpa [List.drop_drop] using this
    have step : ∀ (d : Option Nat) (x : I) (sl : Slots), SM w ρ sl a → dstOk c.N o.dst d = true → x.chk P.p o.op = true → x.wp P sl ob (fun v ob' => rwp P K (fun _ _ _ => False) s (put sl d v) ob') (fun v ob' => False) →
        o.wp P.p a w (fun a' w' => wpOpsS P.p ops Q (List.range' (j + 1) r.length) a' cs w') (fun e a' w' => Q e a' cs w') := by
      intro d x sl hs hd hx hw
      refine I.sound (m.gl.trans hg.symm) hs m.om hx hw o rfl _ _ (fun v y ob' w' ρ' hk hr ho t => ?_) (fun u y ob' w' ρ' hk hr ho t => hk.elim)
      obtain ⟨g1, g2, g3⟩ := rep_look_put hd m.size (hs.tr t) hr
      exact listS_sound hg hK r (j + 1) s _ ob' ρ' _ w' hd' h2 hk ⟨m.base.tr t, ho, g1, g2, g3.trans m.df, t.xo.trans m.xo, t.gl.trans m.gl⟩
    have fin : o.wp P.p a w (fun a' w' => wpOpsS P.p ops Q (List.range' (j + 1) r.length) a' cs w') (fun e a' w' => Q e a' cs w') → Region.wanted o (yielded ops a.tmps) = true → wpOpsS P.p ops Q (List.range' j (r.length + 1)) a cs w := by
      intro hw hwant
      rw [List.range'_succ]
      simp only [wpOpsS, hj, hwant, if_true]
      unfold Oper.wp at hw
      split
      · rename_i w' hrun
        rw [hrun] at hw
        exact hw.elim
      · exact hw
    simp only [List.length_cons]
    cases i with
    | op d x =>
      simp only [It.chk, Bool.and_eq_true, Option.isNone_iff_eq_none] at h1
      simp only [rwp] at h
      exact fin (step d x sl m.sm h1.1.1 h1.2 h) (by simp [Region.wanted, h1.1.2])
    | gop g want d x =>
      simp only [It.chk, Bool.and_eq_true] at h1
      simp only [rwp] at h
      rcases guard_sound (ops := ops) m.sm h1.1.2 h with ⟨hw, sl', hs, h⟩ | ⟨hw, sl', hs, h⟩
      · exact fin (step d x sl' hs h1.1.1 h1.2 h) hw
      · rw [List.range'_succ]
        simp only [wpOpsS, hj, hw, Bool.false_eq_true, if_false]
        obtain ⟨g1, g2, g3⟩ := rep_look_put h1.1.1 m.size hs (rep_undef.2 rfl)
        exact listS_sound hg hK r (j + 1) s _ ob ρ _ w hd' h2 h ⟨m.base, m.om, g1, g2, g3.trans m.df, m.xo, m.gl⟩
  | [], _, _ :: _, _, _, _, _, _, _, hc, _, _ => by simp [chkIts] at hc
  | _ :: _, _, [], _, _, _, _, _, _, hc, _, _ => by simp [chkIts] at hc

theorem dcall_walk {P : Prg} (hm : P.p.follows .mixedOrders = true) {f k : Nat} {its : List It} {keep : List Nat} {s : S} {vs : List V} {ob : Objs} {rv : Option V} {K : Objs → Prop} (hc : dfnOk P.p f vs.length k its s = true)
    (h : rwp P (fun sl ob' => cwp P s (dQ (fresh ob) K) (keepS sl keep) ob') (fun _ _ _ => False) its ((k, rv.getD (.d .nili)) :: argS 0 vs) ob) : DCall P f vs ob rv K := by
  unfold dfnOk at hc
  split at hc
  · rename_i fn hf
    split at hc
    · rename_i id ops code hb
      split at hc
      · rename_i o os hops
        simp only [Bool.and_eq_true, decide_eq_true_eq, Option.isNone_iff_eq_none, beq_iff_eq] at hc
        obtain ⟨⟨⟨⟨⟨⟨⟨hn, hk⟩, hrec⟩, hdst⟩, hgd⟩, hits⟩, hs⟩, hres⟩ := hc
        have hemp : fn.results = #[] := by simpa using hres
        have hres' : ∀ (t : Array Value) (w : World), (results fn t).run P.p w = .ok (.tuple #[]) w := fun t w => by simp [results, hemp]
        have hop : ∃ args ts, o.op = .call { callee := .builtin .recover, args := args, argTypes := ts } := by
          revert hrec; generalize o.op = op; intro hrec
          unfold recOp at hrec
          split at hrec
          · exact ⟨_, _, rfl⟩
          · simp at hrec
        obtain ⟨rargs, rts, hop⟩ := hop
        have hrun : ∀ (a : Act) (w : World), (execOp a.eval o).run P.p w = .ok .recover w := fun a w => by
          simp [execOp, hop, resolve, invoke, builtin]
        have ho0 : ops[0]? = some o := by
          have := congrArg (·[0]?) hops; simpa using this
        have hsize : ops.size = os.length + 1 := by
          have := congrArg List.length hops; simpa using this
        have hdrop : ops.toList.drop 1 = os := by rw [hops]; rfl
        have key : ∀ w ρ args, OM w ρ ob → ρ.gl = P.g → V.reps w ρ vs args → ∀ (u u' : FrameMode) (x : Value), (rv.getD (.d .nili)).rep w ρ x →
            (∀ (c0 : Frame) (cs : List Frame), c0.mode = u → (recoverD (c0 :: cs) = some (x, { c0 with mode := u' } :: cs)) ∨ (recoverD (c0 :: cs) = none ∧ x = .nilIface ∧ u' = u)) →
            CallsD P.p f args.toArray u w (fun e v w' => (∃ v, e = .returned v) ∧ v = u' ∧ ∃ ob' ρ', K ob' ∧ OM w' ρ' ob' ∧ Tr w ρ w' ρ') := by
          intro w ρ args hO hg hr u u' x hx hrecD
          refine callsD_of_wpS hf hb fun c0 cs hc0 => ?_
          let c : Ctx := ⟨w, ownM ρ, fn.ntmps, [], P.g, ρ.m, []⟩
          have hlen : args.length = vs.length := by simpa using reps_length hr
          have m : Mod c ρ.xo ρ (argS 0 vs) ob { tmps := args.toArray ++ Array.replicate (fn.ntmps - args.toArray.size) undef, defers := [] } w := by
            refine ⟨⟨Nat.le_refl _, fun _ _ _ => rfl, fun b h => .inr h, rfl, rfl, rfl, fun id o h => ⟨o, h, .refl o⟩, (fun p hp => by cases hp)⟩, hO, ?_, ?_, rfl, rfl, hg⟩
            · refine argS_rep hr 0 _ (fun i hi => ?_)
              simp [Array.getElem?_append, hi]
            · simp [c]; omega
          have hout : ∀ (e : Exit) (a' : Act) (w' : World) cs', cs' = { c0 with mode := u' } :: cs → lift c ρ.xo (dQ (fresh ob) K) e a' w' → bodyPostS P.p fn c0 cs (fun e v w' => (∃ v, e = .returned v) ∧ v = u' ∧ ∃ ob' ρ', K ob' ∧ OM w' ρ' ob' ∧ Tr w ρ w' ρ') e a' cs' w' := by
            rintro e a' w' cs' rfl ⟨ae, sl', ob', ρ', hq, he, m'⟩
            have old : ∀ kp id o, ρ.m id = some o → young (fresh ob) kp id = false := fun kp id o h0 => by
              obtain ⟨x, hx⟩ := hO.dom id o h0
              have hlt : ¬ fresh ob ≤ id := fun hle => by rw [fresh_look _ _ hle] at hx; cases hx
              simp [young, hlt]
            have tr : ∀ kp, Tr w ρ w' (ρ'.del (young (fresh ob) kp)) := fun kp => by
              have b2 := m'.base
              refine ⟨b2.size, fun b h1 h2 => b2.keep b h2 h1, fun b h1 => (b2.owns b (del_ownM h1)).symm, ?_, ?_, fun id o h1 => ?_, b2.tape, b2.os, b2.out⟩
              · show ρ'.xo = ρ.xo; rw [m'.xo]
              · show ρ'.gl = ρ.gl; rw [m'.gl, hg]
              · obtain ⟨o', h3, h4⟩ := b2.same id o h1
                exact ⟨o', by simp only [Env.del, old kp id o h1]; exact h3, h4⟩
            have hfin : leaveK (fresh ob) K [] ob' → a'.defers = [] ∧ ∃ u'', { c0 with mode := u' } :: cs = { c0 with mode := u'' } :: cs ∧ ∃ v, (results fn a'.tmps).run P.p w' = .ok v w' ∧ ((∃ v', Ending.returned v = .returned v') ∧ u'' = u' ∧ ∃ ob' ρ', K ob' ∧ OM w' ρ' ob' ∧ Tr w ρ w' ρ') := by
              rintro ⟨kp, _, k2, k3⟩
              exact ⟨m'.df, u', rfl, _, hres' _ _, ⟨_, rfl⟩, rfl, _, _, k3, m'.om.del k2, tr kp⟩
            cases ae with
            | normal => cases e <;> simp only [exM] at he; exact hfin hq
            | ret => cases e <;> simp only [exM] at he; exact hfin hq
            | exit n => exact hq.elim
            | panic v => exact hq.elim
          refine wpS_seq (wpS_region ?_)
          have hrange : List.range ops.size = 0 :: List.range' 1 os.length := by
            rw [List.range_eq_range', hsize, List.range'_succ]
          rw [hrange]
          have hwant : ∀ a : Act, Region.wanted o (yielded ops a.tmps) = true := fun a => by simp [Region.wanted, hgd]
          have hput : ∀ cs' : List Frame, cs' = { c0 with mode := u' } :: cs → wpOpsS P.p ops (Exit.thenS (code.wpS P.p (bodyPostS P.p fn c0 cs (fun e v w' => (∃ v, e = .returned v) ∧ v = u' ∧ ∃ ob' ρ', K ob' ∧ OM w' ρ' ob' ∧ Tr w ρ w' ρ'))) (bodyPostS P.p fn c0 cs (fun e v w' => (∃ v, e = .returned v) ∧ v = u' ∧ ∃ ob' ρ', K ob' ∧ OM w' ρ' ob' ∧ Tr w ρ w' ρ'))) (List.range' 1 os.length)
              (({ tmps := args.toArray ++ Array.replicate (fn.ntmps - args.toArray.size) undef, defers := [] } : Act).put o.dst x) cs' w := by
            intro cs' hcs'
            obtain ⟨g1, g2, g3⟩ := rep_look_put (d := some k) (o := o.dst) (v := x) (N := fn.ntmps) (by simp [dstOk, hdst, hk]) m.size m.sm hx
            refine listS_sound (c := c) (xo := ρ.xo) rfl (fun sl ob1 ρ1 a1 w1 hk1 m1 => ?_) os 1 its _ ob ρ _ w hdrop hits h ⟨m.base, m.om, g1, g2, g3, m.xo, m.gl⟩
            simp only [Exit.thenS]
            exact wpS_of_wp (wp_mono (cwp_sound hm rfl code s _ _ _ ρ1 a1 w1 hs hk1 ⟨m1.base, m1.om, m1.sm.keep keep, m1.size, m1.df, m1.xo, m1.gl⟩) (fun e a' w' hl => hout e a' w' cs' hcs' hl))
          have hwant0 : Region.wanted o (yielded ops (args.toArray ++ Array.replicate (fn.ntmps - args.toArray.size) undef)) = true := hwant { tmps := args.toArray ++ Array.replicate (fn.ntmps - args.toArray.size) undef, defers := [] }
          simp only [wpOpsS, ho0, hwant0, if_true, hrun]
          rcases hrecD c0 cs hc0 with hr1 | ⟨hr1, hx1, hu1⟩
          · rw [hr1]; exact hput _ rfl
          · rw [hr1]
            subst hx1
            refine hput _ ?_
            subst hu1; cases c0; simp only at hc0; subst hc0; rfl
        refine ⟨fun he w ρ args hO hg hr => ?_, fun v he w ρ args x hO hg hr hx hix => ?_⟩
        · subst he
          exact key w ρ args hO hg hr .returning .returning .nilIface (rep_nili.2 rfl) (fun c0 cs hc0 => .inr ⟨by simp [recoverD, hc0], rfl, rfl⟩)
        · subst he
          exact key w ρ args hO hg hr _ _ x hx (fun c0 cs hc0 => .inl (by simp [recoverD, hc0]))
      · simp at hc
    · simp at hc
  · simp at hc


inductive FSt where
  | pre (s : S) (r : FSt)
  | dfr (its : List It) (keep : List Nat) (k : Nat) (s : S)

def dfrOp (k : Nat) : Op → Bool
  | .defer { callee := .value (.tmp j), args := args, .. } => j == k && args.isEmpty
  | _ => false
def FSt.chk (P : Program) (N : Nat) : Code → FSt → Bool
  | .seq a b, .pre s r => S.chk P N a s && FSt.chk P N b r
  | .seq (.region _ ops false) b, .dfr its _ k s => match ops.toList.reverse with
    | o :: os => dfrOp k o.op && o.dst.isNone && o.guard.isNone && chkIts P N ops os.reverse its && S.chk P N b s
    | [] => false
  | _, _ => false

def dferQ (P : Prg) (g : Nat) (cl : List V) (rs : List RV) (K : V → Prop) : Post
  | .normal, sl, ob => DCall P g cl ob none fun ob' => resK sl ob' rs fun vs => givsK (fun l _ => K (retV (l.map .d))) (V.givs ob' vs)
  | .ret, sl, ob => DCall P g cl ob none fun ob' => resK sl ob' rs fun vs => givsK (fun l _ => K (retV (l.map .d))) (V.givs ob' vs)
  | .panic v, sl, ob => (∃ t y, v = .iface t y ∨ ∃ z, v = .d (.iface t z)) ∧ DCall P g cl ob (some v) fun ob' => resK sl ob' rs fun vs => givsK (fun l _ => K (retV (l.map .d))) (V.givs ob' vs)
  | .exit _, _, _ => False
def dfrK (P : Prg) (s : S) (rs : List RV) (K : V → Prop) (sl : Slots) (ob : Objs) : V → Prop
  | .fn g fi ca => callable P.p g = true ∧ cwp P s (dferQ P g (fi ++ ca) rs K) sl ob
  | _ => False
def fwp (P : Prg) (rs : List RV) (K : V → Prop) : FSt → Slots → Objs → Prop
  | .pre s r, sl, ob => cwp P s (thenK (fwp P rs K r) (pureQ rs K)) sl ob
  | .dfr its keep k s, sl, ob => rwp P (fun sl ob => dfrK P s rs K (keepS sl keep) ob (look (keepS sl keep) k)) (fun _ _ _ => False) its sl ob

def fnOkD (P : Program) (f n : Nat) (s : FSt) (rs : List RV) : Bool := match P.funcs[f]? with
  | some fn => match fn.body with
    | some code => decide (n ≤ fn.ntmps) && FSt.chk P fn.ntmps code s && chkRes P fn.results.toList rs
    | none => false
  | none => false

theorem list_then {P : Prg} {c : Ctx} (hg : P.g = c.g) {xo : Nat → Prop} {ops : Array Oper} {Q : Exit → Act → World → Prop} {K : Slots → Objs → Prop} {l' : List Oper}
    (hK : ∀ sl ob ρ a w, K sl ob → Mod c xo ρ sl ob a w → wpList P.p ops Q l' a w) :
    ∀ (l : List Oper) (its : List It) (sl : Slots) (ob : Objs) (ρ : Env) (a : Act) (w : World), chkIts P.p c.N ops l its = true → rwp P K (fun _ _ _ => False) its sl ob → Mod c xo ρ sl ob a w → wpList P.p ops Q (l ++ l') a w
  | [], [], sl, ob, ρ, a, w, _, h, m => by simp only [List.nil_append]; exact hK sl ob ρ a w h m
  | o :: r, i :: s, sl, ob, ρ, a, w, hc, h, m => by
    simp only [chkIts, Bool.and_eq_true] at hc
    obtain ⟨h1, h2⟩ := hc
    have step : ∀ (d : Option Nat) (x : I) (sl : Slots), SM w ρ sl a → dstOk c.N o.dst d = true → x.chk P.p o.op = true → x.wp P sl ob (fun v ob' => rwp P K (fun _ _ _ => False) s (put sl d v) ob') (fun v ob' => False) → o.wp P.p a w (wpList P.p ops Q (r ++ l')) Q := by
      intro d x sl hs hd hx hw
      refine I.sound (m.gl.trans hg.symm) hs m.om hx hw o rfl _ _ (fun v y ob' w' ρ' hk hr ho t => ?_) (fun u y ob' w' ρ' hk hr ho t => hk.elim)
      obtain ⟨g1, g2, g3⟩ := rep_look_put hd m.size (hs.tr t) hr
      exact list_then hg hK r s _ ob' ρ' _ w' h2 hk ⟨m.base.tr t, ho, g1, g2, g3.trans m.df, t.xo.trans m.xo, t.gl.trans m.gl⟩
    simp only [List.cons_append]
    cases i with
    | op d x =>
      simp only [It.chk, Bool.and_eq_true, Option.isNone_iff_eq_none] at h1
      simp only [rwp] at h
      simp only [wpList, Region.wanted, h1.1.2, if_true]
      exact .inl (step d x sl m.sm h1.1.1 h1.2 h)
    | gop g want d x =>
      simp only [It.chk, Bool.and_eq_true] at h1
      simp only [rwp] at h
      simp only [wpList]
      rcases guard_sound (ops := ops) m.sm h1.1.2 h with ⟨hw, sl', hs, h⟩ | ⟨hw, sl', hs, h⟩
      · rw [if_pos hw]
        exact .inl (step d x sl' hs h1.1.1 h1.2 h)
      · rw [hw]
        simp only [Bool.false_eq_true, if_false]
        obtain ⟨g1, g2, g3⟩ := rep_look_put h1.1.1 m.size hs (rep_undef.2 rfl)
        exact list_then hg hK r s _ ob ρ _ w h2 h ⟨m.base, m.om, g1, g2, g3.trans m.df, m.xo, m.gl⟩
  | [], _ :: _, _, _, _, _, _, hc, _, _ => by simp [chkIts] at hc
  | _ :: _, [], _, _, _, _, _, hc, _, _ => by simp [chkIts] at hc

section
variable {P : Prg} {w0 : World} {ρ0 : Env}
def pureR (w0 : World) (ρ0 : Env) (K : V → Prop) : Ending → World → Prop := fun e w' => ∃ v u, K v ∧ e = .returned u ∧ v.rep w' ρ0 u ∧ Ext w0 w'
theorem fin_pure {c : Ctx} (h0 : c.w0 = w0) (hex : ∀ b, ¬ c.ex b) {w' : World} {ρ' : Env} {sl : Slots} {ob : Objs} {a : Act} {fn : Func} {rs : List RV} {K : V → Prop} (hb : Base c w' ρ') (ho : OM w' ρ' ob) (hs : SM w' ρ' sl a) (hx : ρ'.xo = own ρ0)
    (hc : chkRes P.p fn.results.toList rs = true) (h : resK sl ob rs fun vs => givsK (fun l _ => K (retV (l.map .d))) (V.givs ob vs)) : ∃ v, (results fn a.tmps).run P.p w' = .ok v w' ∧ pureR w0 ρ0 K (.returned v) w' := by
  obtain ⟨vs, us, hk, hrep, hrun⟩ := results_run (P := P.p) (fn := fn) hs ho hc h
  cases hgv : V.givs ob vs with
  | none => simp [hgv, givsK] at hk
  | some q =>
    obtain ⟨l, ob2⟩ := q
    simp only [hgv, givsK] at hk
    obtain ⟨ρ2, t2, o2, hr2⟩ := givs_temps vs us ho hrep hgv
    have mo2 : Mono w' (own ρ2) w' (own ρ0) := fun b h1 _ => ⟨rfl, fun h2 => h1 (.inr (by rw [t2.xo, hx]; exact h2))⟩
    have hrep' := allD_reps mo2 _ _ l rfl hr2
    have hext : Ext w0 w' := by subst h0; exact ⟨hb.size, fun b h => hb.keep b h (hex b), hb.tape, hb.os, hb.out⟩
    exact ⟨retU us, hrun, retV (l.map .d), retU us, hk, rfl, reps_retV hrep', hext⟩

theorem fwp_sound (hm : P.p.follows .mixedOrders = true) {c : Ctx} (hg : P.g = c.g) (h0 : c.w0 = w0) (hex : ∀ b, ¬ c.ex b) (hdf : c.df = []) (hm0 : ∀ id, c.m0 id = none) {fn : Func} {rs : List RV} {K : V → Prop} (hres : chkRes P.p fn.results.toList rs = true) :
    ∀ (code : Code) (s : FSt) (sl : Slots) (ob : Objs) (ρ : Env) (a : Act) (w : World), FSt.chk P.p c.N code s = true → fwp P rs K s sl ob → Mod c (own ρ0) ρ sl ob a w → code.wp P.p (bodyPostD P.p fn (pureR w0 ρ0 K)) a w
  | .seq x y, .pre s r, sl, ob, ρ, a, w, hc, h, m => by
    simp only [FSt.chk, Bool.and_eq_true] at hc
    simp only [fwp] at h
    refine wp_seq (wp_mono (cwp_sound hm hg x s _ sl ob ρ a w hc.1 h m) ?_)
    rintro e a' w' ⟨ae, sl', ob', ρ', hq, he, m'⟩
    cases ae with
    | normal =>
      cases e <;> simp only [exM] at he
      exact fwp_sound hm hg h0 hex hdf hm0 hres y r sl' ob' ρ' a' w' hc.2 hq m'
    | exit n => exact hq.elim
    | ret =>
      cases e <;> simp only [exM] at he
      show Leaves _ _ _ _ a'.defers .returning w'
      rw [m'.df, hdf]
      exact fin_pure h0 hex m'.base m'.om m'.sm m'.xo hres hq
    | panic v => exact hq.elim
  | .seq (.region id ops false) y, .dfr its keep k s, sl, ob, ρ, a, w, hc, h, m => by
    simp only [FSt.chk] at hc
    split at hc
    · rename_i o os hops
      simp only [Bool.and_eq_true, Option.isNone_iff_eq_none] at hc
      obtain ⟨⟨⟨⟨hop, hdst⟩, hgd⟩, hits⟩, hs⟩ := hc
      simp only [fwp] at h
      have hl : ops.toList = os.reverse ++ [o] := by
        have := congrArg List.reverse hops; simpa using this
      refine wp_seq (wp_region_list ?_)
      rw [hl]
      refine list_then hg (fun sl0 ob1 ρ1 a1 w1 hk m0 => ?_) os.reverse its sl ob ρ a w hits h m
      have m1 : Mod c (own ρ0) ρ1 (keepS sl0 keep) ob1 a1 w1 := ⟨m0.base, m0.om, m0.sm.keep keep, m0.size, m0.df, m0.xo, m0.gl⟩
      generalize keepS sl0 keep = sl1 at hk m1
      unfold dfrK at hk
      split at hk
      · rename_i g fi ca e1
        obtain ⟨hcall, hk⟩ := hk
        have hrep := m1.sm k
        rw [e1] at hrep
        have hrep0 := hrep
        rw [rep_fn] at hrep
        obtain ⟨fs, gs, hv, hr1, hr2⟩ := hrep
        obtain ⟨args, ts, hop'⟩ : ∃ args ts, o.op = .defer { callee := .value (.tmp k), args := args, argTypes := ts } ∧ args = #[] := by
          revert hop; generalize o.op = op; intro hop
          unfold dfrOp at hop
          split at hop
          · simp only [Bool.and_eq_true, beq_iff_eq] at hop
            obtain ⟨rfl, hop⟩ := hop
            exact ⟨_, _, rfl, by simpa using hop⟩
          · simp at hop
        obtain ⟨hop', rfl⟩ := hop'
        let d : Deferred := { target := .fn (.func g) gs.toArray, args := fs.toArray ++ #[] }
        have hrun : (execOp a1.eval o).run P.p w1 = .ok (.defer d) w1 := by
          have : a1.eval (.tmp k) = .func (.func g) fs.toArray gs.toArray := hv
          simp [execOp, hop', resolve, this, Deferred.ofValue, d]
        simp only [wpList, Region.wanted, hgd, if_true]
        left
        unfold Oper.wp
        rw [hrun]
        simp only [Oper.upon, hdst, Act.put]
        let c2 : Ctx := ⟨c.w0, c.ex, c.N, [d], c.g, c.m0, [(.fn g fi ca, .func (.func g) fs.toArray gs.toArray)]⟩
        have m2 : Mod c2 (own ρ0) ρ1 sl1 ob1 { a1 with defers := d :: a1.defers } w1 := by
          refine ⟨⟨m1.base.size, m1.base.keep, m1.base.owns, m1.base.tape, m1.base.os, m1.base.out, m1.base.same, fun p hp => ?_⟩, m1.om, m1.sm, m1.size, ?_, m1.xo, m1.gl⟩
          · simp only [c2, List.mem_singleton] at hp
            subst hp
            rw [hv] at hrep0
            exact hrep0
          · show d :: a1.defers = [d]; rw [m1.df, hdf]
        show Code.wp _ _ _ _ _
        refine wp_mono (cwp_sound hm (c := c2) hg y s _ _ _ ρ1 _ w1 hs hk m2) ?_
        rintro e a' w' ⟨ae, sl', ob', ρ', hq, he, m'⟩
        have hclo : V.reps w' ρ' (fi ++ ca) (fs ++ gs) := by
          have := m'.base.ext (.fn g fi ca, .func (.func g) fs.toArray gs.toArray) (by simp [c2])
          simp only at this
          rw [rep_fn] at this
          obtain ⟨fs', gs', e2, q1, q2⟩ := this
          simp only [Value.func.injEq, true_and] at e2
          obtain ⟨e3, e4⟩ := e2
          have e3 : fs = fs' := by simpa using congrArg Array.toList e3
          have e4 : gs = gs' := by simpa using congrArg Array.toList e4
          subst e3 e4
          exact reps_append q1 q2
        have hinv : ∀ w, (invoke d.target d.args).run P.p w = .ok (.enter g (fs ++ gs).toArray) w := fun w => by
          simp only [d, invoke, callFunc_run hcall]
          simp
        have hd : a'.defers = [d] := m'.df
        have after : ∀ (w'' : World) (ob2 : Objs) (ρ2 : Env), (resK sl' ob2 rs fun vs => givsK (fun l _ => K (retV (l.map .d))) (V.givs ob2 vs)) → OM w'' ρ2 ob2 → Tr w' ρ' w'' ρ2 → Leaves P.p fn a'.tmps (pureR w0 ρ0 K) [] .returning w'' := by
          intro w'' ob2 ρ2 hq o2 t2
          exact fin_pure (c := c2) h0 hex (m'.base.tr t2) o2 (m'.sm.tr t2) (t2.xo.trans m'.xo) hres hq
        have hgl : ρ'.gl = P.g := m'.gl.trans hg.symm
        have hret : DCall P g (fi ++ ca) ob' none (fun ob' => resK sl' ob' rs fun vs => givsK (fun l _ => K (retV (l.map .d))) (V.givs ob' vs)) → Leaves P.p fn a'.tmps (pureR w0 ρ0 K) a'.defers .returning w' := by
          intro hq
          rw [hd]
          refine leaves_cons (fv := .func g) (cap := gs.toArray) (dargs := fs.toArray ++ #[]) (by simp) (hinv w') ((hq.ret rfl w' ρ' (fs ++ gs) m'.om hgl hclo).mono ?_)
          rintro e u w'' ⟨⟨v, rfl⟩, rfl, ob2, ρ2, k2, o2, t2⟩
          exact after w'' ob2 ρ2 k2 o2 t2
        cases ae with
        | normal => cases e <;> simp only [exM] at he; exact hret hq
        | ret => cases e <;> simp only [exM] at he; exact hret hq
        | exit n => exact hq.elim
        | panic v =>
          cases e <;> simp only [exM] at he
          obtain ⟨u, rfl, hu⟩ := he
          obtain ⟨⟨t, y, hty⟩, hq⟩ := hq
          have hix : ∃ t y, u = .iface t y := by
            rcases hty with rfl | ⟨z, rfl⟩
            · rw [rep_leaf (by simp [V.isAgg]) (by simp)] at hu
              simp only [V.repC, List.cons.injEq, and_true] at hu
              obtain ⟨c, hu, _⟩ := hu
              exact ⟨_, _, hu⟩
            · rw [rep_difc] at hu
              obtain ⟨c, hu, _⟩ := hu
              exact ⟨_, _, hu⟩
          show Leaves _ _ _ _ a'.defers _ w'
          rw [hd]
          refine leaves_cons (fv := .func g) (cap := gs.toArray) (dargs := fs.toArray ++ #[]) (by simp) (hinv w') ((hq.pan v rfl w' ρ' (fs ++ gs) u m'.om hgl hclo hu hix).mono ?_)
          rintro e u' w'' ⟨⟨v', rfl⟩, rfl, ob2, ρ2, k2, o2, t2⟩
          exact after w'' ob2 ρ2 k2 o2 t2
      · exact hk.elim
    · simp at hc
  | .skip, _, _, _, _, _, _, hc, _, _ | .region _ _ _, _, _, _, _, _, _, hc, _, _ | .cond _ _ _, _, _, _, _, _, _, hc, _, _ | .block _ _, _, _, _, _, _, _, hc, _, _ | .loop _, _, _, _, _, _, _, hc, _, _ | .rangeFunc _ _ _ _, _, _, _, _, _, _, hc, _, _ | .exit _, _, _, _, _, _, _, hc, _, _ | .scope _, _, _, _, _, _, _, hc, _, _ | .label _, _, _, _, _, _, _, hc, _, _ | .goto _, _, _, _, _, _, _, hc, _, _ | .ret, _, _, _, _, _, _, hc, _, _ | .refuse _, _, _, _, _, _, _, hc, _, _ => by simp [FSt.chk] at hc
  | .seq (.region _ _ true) _, .dfr _ _ _ _, _, _, _, _, _, hc, _, _ | .seq .skip _, .dfr _ _ _ _, _, _, _, _, _, hc, _, _ | .seq (.seq _ _) _, .dfr _ _ _ _, _, _, _, _, _, hc, _, _ | .seq (.cond _ _ _) _, .dfr _ _ _ _, _, _, _, _, _, hc, _, _ | .seq (.block _ _) _, .dfr _ _ _ _, _, _, _, _, _, hc, _, _ | .seq (.loop _) _, .dfr _ _ _ _, _, _, _, _, _, hc, _, _ | .seq (.rangeFunc _ _ _ _) _, .dfr _ _ _ _, _, _, _, _, _, hc, _, _ | .seq (.exit _) _, .dfr _ _ _ _, _, _, _, _, _, hc, _, _ | .seq (.scope _) _, .dfr _ _ _ _, _, _, _, _, _, hc, _, _ | .seq (.label _) _, .dfr _ _ _ _, _, _, _, _, _, hc, _, _ | .seq (.goto _) _, .dfr _ _ _ _, _, _, _, _, _, hc, _, _ | .seq .ret _, .dfr _ _ _ _, _, _, _, _, _, hc, _, _ | .seq (.refuse _) _, .dfr _ _ _ _, _, _, _, _, _, hc, _, _ => by simp [FSt.chk] at hc

theorem pcall_defer (hm : P.p.follows .mixedOrders = true) {f : Nat} {s : FSt} {rs : List RV} {ds : List D} {ob0 : Objs} {K : V → Prop} (hc : fnOkD P.p f ds.length s rs = true)
    (h : fwp P rs K s (argS 0 (ds.map .d)) []) : PCall P f (ds.map .d) ob0 K := by
  unfold fnOkD at hc
  split at hc
  · rename_i fn hf
    split at hc
    · rename_i code hb
      simp only [Bool.and_eq_true, decide_eq_true_eq] at hc
      obtain ⟨⟨hn, h1⟩, h2⟩ := hc
      refine ⟨fun w ρ args hO hg hr => ?_⟩
      let ρ1 : Env := ⟨fun _ => none, own ρ, ρ.gl⟩
      let c : Ctx := ⟨w, fun _ => False, fn.ntmps, [], P.g, fun _ => none, []⟩
      have hnone : ∀ b, ¬ ownM ρ1 b := fun b ⟨_, _, h, _⟩ => by cases h
      have hlt : ∀ b, own ρ b → b < w.heap.size := fun b h => h.elim (fun ⟨_, _, h1, h2⟩ => own_lt hO h1 h2) (hO.xlt b)
      have mo : Mono w (own ρ) w (own ρ1) := fun b h1 _ => ⟨rfl, fun h2 => h2.elim (hnone b) h1⟩
      have hr0 := allD_reps mo _ _ ds rfl hr
      have hlen : args.length = ds.length := by simpa using reps_length hr
      have m : Mod c (own ρ) ρ1 (argS 0 (ds.map .d)) [] { tmps := args.toArray ++ Array.replicate (fn.ntmps - args.toArray.size) undef, defers := [] } w := by
        refine ⟨⟨Nat.le_refl _, fun _ _ _ => rfl, fun b h => absurd h (hnone b), rfl, rfl, rfl, (fun id o h => by cases h), (fun p hp => by cases hp)⟩, ⟨fun j x hx => (by simp [lookO] at hx), fun j o hj => (by cases hj), fun i j o p b hi => (by cases hi), fun b hb => hlt b hb, fun b o hb => ⟨(hO.glb b o hb).1, fun h => h.elim (hnone b) (hO.glb b o hb).2⟩, fun b hb => absurd hb (hnone b), trivial⟩, ?_, ?_, rfl, rfl, hg⟩
        · refine argS_rep hr0 0 _ (fun i hi => ?_)
          simp [Array.getElem?_append, hi]
        · simp [c]; omega
      exact calls_of_wp_defers hf hb (fwp_sound (w0 := w) (ρ0 := ρ) hm (c := c) rfl rfl (fun _ h => h) rfl (fun _ => rfl) h2 code s _ _ _ _ w h1 h m)
    · simp at hc
  · simp at hc
end

inductive FS2 where
  | pre (s : S2) (r : FS2)
  | dfr (l : List It2) (keep : List (Nat × E)) (k : Nat) (s : S2)
def FSt.lift (fs : List Nat) : FSt → Option FS2
  | .pre s r => match s.lift fs, r.lift fs with
    | some s, some r => some (.pre s r)
    | _, _ => none
  | .dfr its kp k s => match liftR fs kp [] its [] [] [], s.lift fs with
    | some (l, keep), some s => some (.dfr l keep k s)
    | _, _ => none
def dfrK2 (P : Prg) (T : Tab) (s : S2) (rs : List RV) (K : V → Prop) (sl : Slots) (ob : Objs) : V → Prop
  | .fn g fi ca => callable P.p g = true ∧ cwp2 P T s (dferQ P g (fi ++ ca) rs K) sl ob
  | _ => False
def fwp2 (P : Prg) (T : Tab) (rs : List RV) (K : V → Prop) : FS2 → Slots → Objs → Prop
  | .pre s r, sl, ob => cwp2 P T s (thenK (fwp2 P T rs K r) (pureQ rs K)) sl ob
  | .dfr l keep k s, sl, ob => rwp2 P T (fun sl ob => keepOk T sl ob keep ∧ dfrK2 P T s rs K (keepE T sl ob keep) ob (look (keepE T sl ob keep) k)) (fun _ _ _ => False) l sl ob

theorem inv0 {T : Tab} {sl : Slots} {ob : Objs} : Inv T [] sl sl ob := fun k p e h => by
  simp [ent, lookG] at h; obtain ⟨rfl, rfl⟩ := h; exact ⟨fun _ => rfl, fun h => by cases h⟩

theorem FSt.lift_sound {P : Prg} {T : Tab} (hT : TOk P T) {fs : List Nat} {rs : List RV} {K : V → Prop} : ∀ (s : FSt) {s2 : FS2} {sl : Slots} {ob : Objs}, s.lift fs = some s2 → fwp2 P T rs K s2 sl ob → fwp P rs K s sl ob
  | .pre s r, s2, sl, ob, h, hc => by
    simp only [FSt.lift] at h
    split at h
    · rename_i s' r' hs hr
      cases h
      simp only [fwp2] at hc
      simp only [fwp]
      refine S.lift_sound hT s hs (fun e sl ob h => ?_) hc
      cases e with
      | normal => exact FSt.lift_sound hT r hr h
      | _ => exact h
    · cases h
  | .dfr its kp k s, s2, sl, ob, h, hc => by
    simp only [FSt.lift] at h
    split at h
    · rename_i l keep s' hl hs
      cases h
      simp only [fwp2] at hc
      simp only [fwp]
      have hmono : ∀ sl ob, dfrK2 P T s' rs K sl ob (look sl k) → dfrK P s rs K sl ob (look sl k) := fun sl ob h => by
        unfold dfrK2 at h
        split at h
        · rename_i g fi ca e1
          simp only [dfrK, e1]
          exact ⟨h.1, S.lift_sound hT s hs (fun _ _ _ h => h) h.2⟩
        · exact h.elim
      have := liftR_sound (pk := []) hT (K := fun sl ob => dfrK2 P T s' rs K sl ob (look sl k)) (K' := fun sl ob => dfrK P s rs K sl ob (look sl k)) (Pn := fun _ _ _ => False) (Pn' := fun _ _ _ => False) hmono (fun _ _ _ h => h) its inv0 hl hc
      exact this
    · cases h

theorem pcall_defer_lift {P : Prg} {p : Program} (hP : P.p = p) (hm : p.follows .mixedOrders = true) {f : Nat} {s : FSt} {rs : List RV} {ds : List D} {ob0 : Objs} {K : V → Prop} {fs : List Nat} {s2 : FS2} {T : Tab} (hc : fnOkD p f ds.length s rs = true) (hl : s.lift fs = some s2) (hT : TOk P T)
    (h : fwp2 P T rs K s2 (argS 0 (ds.map .d)) []) : PCall P f (ds.map .d) ob0 K := by
  subst hP
  exact pcall_defer hm hc (FSt.lift_sound hT s hl h)

theorem dcall_lift {P : Prg} {p : Program} (hP : P.p = p) (hm : p.follows .mixedOrders = true) {f k : Nat} {its : List It} {s : S} {vs : List V} {ob : Objs} {rv : Option V} {K : Objs → Prop} {fs keep : List Nat} {l : List It2} {kp : List (Nat × E)} {s2 : S2} {T : Tab} (hc : dfnOk p f vs.length k its s = true)
    (hl : liftR fs keep [] its [] [] [] = some (l, kp)) (hs : s.lift fs = some s2) (hT : TOk P T)
    (h : rwp2 P T (fun sl ob' => keepOk T sl ob' kp ∧ cwp2 P T s2 (dQ (fresh ob) K) (keepE T sl ob' kp) ob') (fun _ _ _ => False) l ((k, rv.getD (.d .nili)) :: argS 0 vs) ob) : DCall P f vs ob rv K := by
  subst hP
  refine dcall_walk hm (keep := keep) hc ?_
  have := liftR_sound (pk := []) hT (K := fun sl ob' => cwp2 P T s2 (dQ (fresh ob) K) sl ob') (K' := fun sl ob' => cwp P s (dQ (fresh ob) K) sl ob') (Pn := fun _ _ _ => False) (Pn' := fun _ _ _ => False) (fun sl ob h => S.lift_sound hT s hs (fun _ _ _ h => h) h) (fun _ _ _ h => h) its inv0 hl h
  exact this

section
variable (P : Prg) (T : Tab) (sl : Slots) (ob : Objs) (rs : List RV) (K : V → Prop) (KB : Objs → Prop) (n k g : Nat) (v : V) (cl : List V)
@[simp] theorem fwp2_pre (s : S2) (r : FS2) : fwp2 P T rs K (.pre s r) sl ob = cwp2 P T s (thenK (fwp2 P T rs K r) (pureQ rs K)) sl ob := by simp only [fwp2]
@[simp] theorem fwp2_dfr (l : List It2) (kp : List (Nat × E)) (s : S2) : fwp2 P T rs K (.dfr l kp k s) sl ob = rwp2 P T (fun sl ob => keepOk T sl ob kp ∧ dfrK2 P T s rs K (keepE T sl ob kp) ob (look (keepE T sl ob kp) k)) (fun _ _ _ => False) l sl ob := by simp only [fwp2]
@[simp] theorem dfrK2_f (s : S2) (fi ca : List V) : dfrK2 P T s rs K sl ob (.fn g fi ca) = (callable P.p g = true ∧ cwp2 P T s (dferQ P g (fi ++ ca) rs K) sl ob) := by simp only [dfrK2]
@[simp] theorem dferQ_r : dferQ P g cl rs K .ret sl ob = DCall P g cl ob none fun ob' => resK sl ob' rs fun vs => givsK (fun l _ => K (retV (l.map .d))) (V.givs ob' vs) := by simp only [dferQ]
theorem dferQ_p : dferQ P g cl rs K (.panic v) sl ob = ((∃ t y, v = .iface t y ∨ ∃ z, v = .d (.iface t z)) ∧ DCall P g cl ob (some v) fun ob' => resK sl ob' rs fun vs => givsK (fun l _ => K (retV (l.map .d))) (V.givs ob' vs)) := by simp only [dferQ]
@[simp] theorem dferQ_pd (t : Nat) (z : D) : dferQ P g cl rs K (.panic (.d (.iface t z))) sl ob = DCall P g cl ob (some (.d (.iface t z))) fun ob' => resK sl ob' rs fun vs => givsK (fun l _ => K (retV (l.map .d))) (V.givs ob' vs) := by
  rw [dferQ_p, eq_iff_iff]; exact ⟨fun h => h.2, fun h => ⟨⟨t, .any, .inr ⟨z, rfl⟩⟩, h⟩⟩
@[simp] theorem dQ_n : dQ n KB .normal sl ob = leaveK n KB [] ob := by simp only [dQ]
@[simp] theorem dQ_p : dQ n KB (.panic v) sl ob = False := by simp only [dQ]
end
@[congr] theorem DCall_congr {P : Prg} {f : Nat} {vs vs' : List V} {ob ob' : Objs} {rv rv' : Option V} {K : Objs → Prop} (h : vs = vs') (h' : ob = ob') (h2 : rv = rv') : DCall P f vs ob rv K = DCall P f vs' ob' rv' K := by rw [h, h', h2]
@[congr] theorem dfrK2_congr {P : Prg} {T : Tab} {s : S2} {rs : List RV} {K : V → Prop} {sl sl' : Slots} {ob ob' : Objs} {v v' : V} (h : sl = sl') (h' : ob = ob') (h2 : v = v') : dfrK2 P T s rs K sl ob v = dfrK2 P T s rs K sl' ob' v' := by rw [h, h', h2]
@[congr] theorem fwp2_congr {P : Prg} {T : Tab} {rs : List RV} {K : V → Prop} {s : FS2} {sl sl' : Slots} {ob ob' : Objs} (h : sl = sl') (h' : ob = ob') : fwp2 P T rs K s sl ob = fwp2 P T rs K s sl' ob' := by rw [h, h']
end Go.Ab
/- More equations for states. Over any program; no condition. -/
namespace Go.Ab
open Go
section
variable {ob : Objs} {n k : Nat} {l : List Nat}
theorem young_ge (h : k < n) : young n l k = false := by simp [young]; omega
@[simp] theorem drop_young_ge (h : fresh ob ≤ n) : dropO (young n l) ob = ob := by
  induction ob with
  | nil => rfl
  | cons e r ih =>
    obtain ⟨i, y⟩ := e
    simp only [fresh] at h
    have hi : i < n ∧ fresh r ≤ n := by split at h <;> omega
    simp only [dropO, young_ge hi.1, Bool.false_eq_true, if_false, ih hi.2]
@[simp] theorem young_old_add (m : Nat) (h : (lookO ob k).isSome = true) : young (fresh ob + m) l k = false := by
  have : k < fresh ob := by
    rcases Nat.lt_or_ge k (fresh ob) with h1 | h1
    · exact h1
    · rw [fresh_look ob k h1] at h; cases h
  simp [young]; omega
mutual
theorem V.men_mono {p q : Nat → Bool} (h : ∀ j, q j = false → p j = false) : ∀ v : V, V.men q v = false → V.men p v = false
  | .d _, _ => rfl
  | .ptr id _, e => h id e
  | .sl id _, e => h id e
  | .sd id _, e => h id e
  | .mp id, e => h id e
  | .ep id _ _ _ _, e => h id e
  | .fn _ a b, e => by
    simp only [V.men, Bool.or_eq_false_iff] at e ⊢
    exact ⟨V.mens_mono h a e.1, V.mens_mono h b e.2⟩
  | .agg xs, e => by simp only [V.men] at e ⊢; exact V.mens_mono h xs e
  | .iface _ v, e => by simp only [V.men] at e ⊢; exact V.men_mono h v e
  | .tup xs, e => by simp only [V.men] at e ⊢; exact V.mens_mono h xs e
  | .undef, _ => rfl
  | .any, _ => rfl
theorem V.mens_mono {p q : Nat → Bool} (h : ∀ j, q j = false → p j = false) : ∀ xs : List V, V.mens q xs = false → V.mens p xs = false
  | [], _ => rfl
  | x :: r, e => by
    simp only [V.mens, Bool.or_eq_false_iff] at e ⊢
    exact ⟨V.men_mono h x e.1, V.mens_mono h r e.2⟩
end
theorem mensE_mono {p q : Nat → Bool} (h : ∀ j, q j = false → p j = false) : ∀ xs : List (D × V), mensE q xs = false → mensE p xs = false
  | [], _ => rfl
  | (_, x) :: r, e => by
    simp only [mensE, Bool.or_eq_false_iff] at e ⊢
    exact ⟨V.men_mono h x e.1, mensE_mono h r e.2⟩
theorem noMenO_mono {p q : Nat → Bool} (h : ∀ j, q j = false → p j = false) : ∀ ob : Objs, noMenO q ob = true → noMenO p ob = true
  | [], _ => rfl
  | (_, .box _ t) :: r, e => by
    simp only [noMenO, Bool.and_eq_true, Bool.not_eq_true'] at e ⊢
    exact ⟨V.men_mono h t e.1, noMenO_mono h r e.2⟩
  | (_, .vec _ _ t) :: r, e => by
    simp only [noMenO, Bool.and_eq_true, Bool.not_eq_true'] at e ⊢
    exact ⟨V.mens_mono h t e.1, noMenO_mono h r e.2⟩
  | (_, .map t) :: r, e => by
    simp only [noMenO, Bool.and_eq_true, Bool.not_eq_true'] at e ⊢
    exact ⟨mensE_mono h t e.1, noMenO_mono h r e.2⟩
  | (_, .arr _ _ _) :: r, e => by simp only [noMenO] at e ⊢; exact noMenO_mono h r e
  | (_, .gone) :: r, e => by simp only [noMenO] at e ⊢; exact noMenO_mono h r e
theorem noMenO_up (h : ∀ kp, noMenO (young (fresh ob) kp) ob = true) (hn : fresh ob ≤ n) : noMenO (young n l) ob = true :=
  noMenO_mono (fun j e => by simp [young] at e ⊢; intro hj; exact e (by omega)) ob (h l)
theorem noMenO_up_add (m : Nat) (h : ∀ kp, noMenO (young (fresh ob) kp) ob = true) : noMenO (young (fresh ob + m) l) ob = true := noMenO_up h (by omega)
theorem DCall.of_wf {P : Prg} {f : Nat} {vs : List V} {ob : Objs} {rv : Option V} {K : Objs → Prop} (h : (∀ kp, V.mens (young (fresh ob) kp) vs = false) → (∀ kp, noMenO (young (fresh ob) kp) ob = true) → DCall P f vs ob rv K) : DCall P f vs ob rv K := by
  have key : ∀ w ρ args, OM w ρ ob → V.reps w ρ vs args → DCall P f vs ob rv K := fun w ρ args hO hr => by
    have old : ∀ kp id o, ρ.m id = some o → young (fresh ob) kp id = false := fun kp id o h0 => by
      obtain ⟨x, hx⟩ := hO.dom id o h0
      have hlt : ¬ fresh ob ≤ id := fun hle => by rw [fresh_look _ _ hle] at hx; cases hx
      simp [young, hlt]
    exact h (fun kp => V.mens_dom (old kp) _ _ hr) (fun kp => noMenO_of ob fun e he => (hO.one e.1 _ (hO.once.look e he)).noMen (old kp))
  exact ⟨fun e w ρ args hO hg hr => (key w ρ args hO hr).ret e w ρ args hO hg hr, fun v e w ρ args x hO hg hr hv hi => (key w ρ args hO hr).pan v e w ρ args x hO hg hr hv hi⟩
end
end Go.Ab
/- More equations: orders, maps, package variables, comparisons. Over any program; no condition. -/
namespace Go.Ab
open Go
section
variable {P : Prg} {T : Tab} {sl : Slots} {ob : Objs} {K : Slots → Objs → Prop} {Pn : V → Slots → Objs → Prop}
@[simp] theorem zl : owp P K Pn .done sl ob = K sl ob := by simp only [owp]
@[simp] theorem zm (i : Nat) (x : It) (r : Ot) : owp P K Pn (.one i x r) sl ob = itK P (owp P K Pn r) Pn x sl ob := by simp only [owp]
@[simp] theorem zk (l : Ots) : owp P K Pn (.br l) sl ob = owps P K Pn l sl ob := by simp only [owp]
@[simp] theorem zo : owps P K Pn .nil sl ob = True := by simp only [owps]
@[simp] theorem zn (i : Nat) (x : It) (r : Ot) (l : Ots) : owps P K Pn (.cons i x r l) sl ob = (itK P (owp P K Pn r) Pn x sl ob ∧ owps P K Pn l sl ob) := by simp only [owps]
@[simp] theorem qq (d : Option Nat) (i : I) : itK P K Pn (.op d i) sl ob = i.wp P sl ob (fun v ob' => K (put sl d v) ob') (fun v ob' => Pn v sl ob') := by simp only [itK]
@[simp] theorem qp (s : Nat) (b : Bool) (d : Option Nat) (i : I) : itK P K Pn (.gop s b d i) sl ob = gdK s b sl (fun sl => i.wp P sl ob (fun v ob' => K (put sl d v) ob') (fun v ob' => Pn v sl ob')) (fun sl => K (put sl d .undef) ob) (look sl s) := by simp only [itK]
@[simp] theorem qm (t : Ot) (kp pk : List Nat) (Q : Post) : cwp2 P T (.rgT t kp pk) Q sl ob = owp P (fun sl ob => Q .normal (keepS sl kp) ob) (fun v sl ob => Q (.panic v) (keepS sl pk) ob) t sl ob := by simp only [cwp2]
variable {KO PO : V → Objs → Prop} {KV : V → Prop}
@[simp] theorem iwp_mkm (r : Option A) : I.wp P sl ob KO PO (.mkm r) = (mkmK sl r ∧ KO (.mp (fresh ob)) ((fresh ob, .map []) :: ob)) := by simp only [I.wp]
@[simp] theorem iwp_lkp (kd z : D) (ok : Bool) (m k : A) : I.wp P sl ob KO PO (.lkp kd z ok m k) = lkpK ob kd z ok (fun v => KO v ob) (m.ev sl) (k.ev sl) := by simp only [I.wp]
@[simp] theorem iwp_mset (kd : D) (m k v : A) : I.wp P sl ob KO PO (.mset kd m k v) = msetK ob kd (v.ev sl) KO (m.ev sl) (k.ev sl) := by simp only [I.wp]
@[simp] theorem qz (g n : Nat) (ag : Bool) (x : D) : I.wp P sl ob KO PO (.gld g n ag x) = (GlobIs P g x ∧ x.sz = n ∧ (V.d x).isAgg = ag ∧ KO (.d x) ob) := by simp only [I.wp]
@[simp] theorem mkmK_none : mkmK sl none = True := by simp only [mkmK]
@[simp] theorem lkpK_mp (kd z k : D) (ok : Bool) (id : Nat) : lkpK ob kd z ok KV (.mp id) (.d k) = lkpKo kd z ok k KV (lookO ob id) := by simp only [lkpK]
@[simp] theorem lkpKo_map (kd z k : D) (ok : Bool) (es : List (D × V)) : lkpKo kd z ok k KV (some (.map es)) = (keysOk kd k es ∧ KV (lkpV z ok (findE k es))) := by simp only [lkpKo]
@[simp] theorem msetK_mp (kd k : D) (v : V) (id : Nat) : msetK ob kd v KO (.mp id) (.d k) = msetKo ob id kd k v KO (lookO ob id) := by simp only [msetK]
@[simp] theorem msetKo_map (kd k : D) (v : V) (id : Nat) (es : List (D × V)) : msetKo ob id kd k v KO (some (.map es)) = (keysOk kd k es ∧ v.sto = true ∧ KO .undef (setO ob id (.map (updE k v es)))) := by simp only [msetKo]
@[simp] theorem lkpV_fs (z : D) (v : V) : lkpV z false (some v) = v := by simp only [lkpV]
@[simp] theorem lkpV_fn (z : D) : lkpV z false none = .d z := by simp only [lkpV]
@[simp] theorem findE_nil (k : D) : findE k [] = none := by simp only [findE]
@[simp] theorem findE_cons (k j : D) (v : V) (r : List (D × V)) : findE k ((j, v) :: r) = if D.sameKey k j then some v else findE k r := by simp only [findE]
@[simp] theorem updE_nil (k : D) (x : V) : updE k x [] = [(k, x)] := by simp only [updE]
@[simp] theorem updE_cons (k j : D) (x v : V) (r : List (D × V)) : updE k x ((j, v) :: r) = if D.sameKey k j then (k, x) :: r else (j, v) :: updE k x r := by simp only [updE]
@[simp] theorem sameKey_str (a b : List UInt8) : D.sameKey (.str a) (.str b) = (a == b) := by simp only [D.sameKey]
@[simp] theorem alike_str (a b : List UInt8) : D.alike (.str a) (.str b) = true := by simp only [D.alike]
@[simp] theorem keysOk_nil (kd k : D) : keysOk kd k [] = (D.alike kd k = true) := by simp [keysOk]
@[simp] theorem keysOk_cons (kd k j : D) (v : V) (r : List (D × V)) : keysOk kd k ((j, v) :: r) = (D.alike k j = true ∧ keysOk kd k r) := by
  simp only [keysOk, List.mem_cons, forall_eq_or_imp, eq_iff_iff]
  exact ⟨fun ⟨a, b, c⟩ => ⟨b, a, c⟩, fun ⟨a, b, c⟩ => ⟨b, a, c⟩⟩
@[simp] theorem cval_eqD (ty : KT) (e : Bool) (x y : A) : C.val sl ob (.eqD ty e x y) = eqDV e (x.ev sl) (y.ev sl) := by simp only [C.val]
@[simp] theorem eqDV_d (e : Bool) (x y : D) : eqDV e (.d x) (.d y) = .d (.bool (D.eqb x y == e)) := by simp only [eqDV]
def eqDS (ty : KT) : V → V → Prop
  | .d x, .d y => ty.fits x = true ∧ ty.fits y = true
  | _, _ => False
@[simp] theorem eqDS_d (ty : KT) (x y : D) : eqDS ty (.d x) (.d y) = (ty.fits x = true ∧ ty.fits y = true) := by simp only [eqDS]
@[simp] theorem cok_eqD (ty : KT) (e : Bool) (x y : A) : C.ok sl ob (.eqD ty e x y) = eqDS ty (x.ev sl) (y.ev sl) := by
  simp only [C.ok, C.wp, C.val]
  generalize x.ev sl = a; generalize y.ev sl = b
  cases a <;> cases b <;> simp [eqDK, eqDS, eqDV]
end
attribute [simp] D.eqb D.eqbs KT.fits KT.fitss KT.fitsA
@[congr] theorem owp_congr {P : Prg} {K : Slots → Objs → Prop} {Pn : V → Slots → Objs → Prop} {t : Ot} {sl : Slots} {ob : Objs} : owp P K Pn t sl ob = owp P K Pn t sl ob := rfl
@[congr] theorem itK_congr {P : Prg} {K : Slots → Objs → Prop} {Pn : V → Slots → Objs → Prop} {t : It} {sl : Slots} {ob : Objs} : itK P K Pn t sl ob = itK P K Pn t sl ob := rfl
@[congr] theorem slgK_congr {ob : Objs} {n z : Nat} {K : V → Objs → Prop} {u u' : V} (h0 : u = u') : slgK ob n z K u = slgK ob n z K u' := by rw [h0]
@[congr] theorem slgKv_congr {n z : Nat} {K : D → Prop} {u u' : Option V} (h0 : u = u') : slgKv n z K u = slgKv n z K u' := by rw [h0]
@[congr] theorem lkpK_congr {ob : Objs} {kd z : D} {ok : Bool} {K : V → Prop} {u u' v v' : V} (h0 : u = u') (h1 : v = v') : lkpK ob kd z ok K u v = lkpK ob kd z ok K u' v' := by rw [h0, h1]
@[congr] theorem lkpKo_congr {kd z k : D} {ok : Bool} {K : V → Prop} {o o' : Option Ob} (h0 : o = o') : lkpKo kd z ok k K o = lkpKo kd z ok k K o' := by rw [h0]
@[congr] theorem msetK_congr {ob : Objs} {kd : D} {x x' : V} {K : V → Objs → Prop} {u u' v v' : V} (h : x = x') (h0 : u = u') (h1 : v = v') : msetK ob kd x K u v = msetK ob kd x' K u' v' := by rw [h, h0, h1]
@[congr] theorem msetKo_congr {ob : Objs} {id : Nat} {kd k : D} {x : V} {K : V → Objs → Prop} {o o' : Option Ob} (h0 : o = o') : msetKo ob id kd k x K o = msetKo ob id kd k x K o' := by rw [h0]
structure Pin {α : Type} (a : α) : Type where
  mk ::
section
variable {P : Prg} {T : Tab} {sl : Slots} {ob : Objs} {KO PO : V → Objs → Prop}
end
end Go.Ab
/- The abstract statements that stand for the code of these functions, written by a program from the translation; that they do is checked by the kernel. No condition. -/
namespace Go.Proofs.YtanpgmgkmfckaaaGreatDoor
open Go Go.Ab
set_option maxRecDepth 100000
def ir18_s0 : S := .rgT 8 (.one 0 (.op (some 17) (.c (.bld [.nils, .nils, .nils, .nils, .nils, .nils] [])))
  (.one 1 (.op (some 18) (.c (.fldA 0 0 (.t 4))))
  (.one 3 (.op (some 20) (.c (.fldA 1 1 (.t 4))))
  (.br (.cons 2 (.op (some 19) (.c (.ld 1 false (.t 18)))) (.br (.cons 4 (.op (some 21) (.c (.ld 1 false (.t 20)))) (.one 5 (.op none (.st 6 (.t 0) (.t 17)))
  (.one 6 (.op none (.st 1 (.t 1) (.t 19)))
  (.one 7 (.op none (.st 1 (.t 2) (.t 21)))
  (.done))))
  (.cons 5 (.op none (.st 6 (.t 0) (.t 17))) (.br (.cons 4 (.op (some 21) (.c (.ld 1 false (.t 20)))) (.one 6 (.op none (.st 1 (.t 1) (.t 19)))
  (.one 7 (.op none (.st 1 (.t 2) (.t 21)))
  (.done)))
  (.cons 6 (.op none (.st 1 (.t 1) (.t 19))) (.br (.cons 4 (.op (some 21) (.c (.ld 1 false (.t 20)))) (.one 7 (.op none (.st 1 (.t 2) (.t 21)))
  (.done))
  (.nil)))
  (.nil))))
  (.nil))))
  (.cons 4 (.op (some 21) (.c (.ld 1 false (.t 20)))) (.br (.cons 2 (.op (some 19) (.c (.ld 1 false (.t 18)))) (.one 5 (.op none (.st 6 (.t 0) (.t 17)))
  (.one 6 (.op none (.st 1 (.t 1) (.t 19)))
  (.one 7 (.op none (.st 1 (.t 2) (.t 21)))
  (.done))))
  (.cons 5 (.op none (.st 6 (.t 0) (.t 17))) (.br (.cons 2 (.op (some 19) (.c (.ld 1 false (.t 18)))) (.one 6 (.op none (.st 1 (.t 1) (.t 19)))
  (.one 7 (.op none (.st 1 (.t 2) (.t 21)))
  (.done)))
  (.nil)))
  (.nil))))
  (.cons 5 (.op none (.st 6 (.t 0) (.t 17))) (.br (.cons 2 (.op (some 19) (.c (.ld 1 false (.t 18)))) (.br (.cons 4 (.op (some 21) (.c (.ld 1 false (.t 20)))) (.one 6 (.op none (.st 1 (.t 1) (.t 19)))
  (.one 7 (.op none (.st 1 (.t 2) (.t 21)))
  (.done)))
  (.cons 6 (.op none (.st 1 (.t 1) (.t 19))) (.br (.cons 4 (.op (some 21) (.c (.ld 1 false (.t 20)))) (.one 7 (.op none (.st 1 (.t 2) (.t 21)))
  (.done))
  (.nil)))
  (.nil))))
  (.cons 4 (.op (some 21) (.c (.ld 1 false (.t 20)))) (.br (.cons 2 (.op (some 19) (.c (.ld 1 false (.t 18)))) (.one 6 (.op none (.st 1 (.t 1) (.t 19)))
  (.one 7 (.op none (.st 1 (.t 2) (.t 21)))
  (.done)))
  (.nil)))
  (.nil))))
  (.nil)))))))) [] []
def ir18_r : List It := [.op (some 3) (.c (.mv (.t 6)))]
def ir18_k : List Nat := [0, 1, 2, 3]
def ir18 : S := .seq (.rg [] [.op (some 7) (.c (.mv (.t 3))),
   .op (some 8) (.c (.isnil false (.t 7)))] [0, 1, 2, 3, 8] [])
 (.cond (.t 8) (.seq (.rg [] [.op (some 10) (.c (.mv (.t 3))),
   .op (some 11) (.c (.tas 60 (.agg [.int .i64 0, .int .i64 0]) (.t 10))),
   .op (some 9) (.c (.mv (.t 11))),
   .op (some 12) (.c (.ext (.t 9) 0)),
   .op (some 13) (.c (.ext (.t 9) 1)),
   .op (some 4) (.alloc 60 (.agg [.int .i64 0, .int .i64 0])),
   .op none (.st 2 (.t 4) (.t 12)),
   .op (some 5) (.c (.mv (.t 13)))] [0, 1, 2, 3, 4, 5] [])
 (.seq (.seq (.rg [] [.op (some 14) (.c (.mv (.t 5))),
   .op (some 15) (.c (.not (.t 14)))] [0, 1, 2, 3, 4, 15] [])
 (.cond (.t 15) (.rg [] [.op (some 16) (.c (.mv (.t 3))),
   .op none (.panic (.t 16))] [0, 1, 2, 4] []) (.skip)))
 (ir18_s0))) (.skip))
theorem ok18 : dfnOk Tryz.prog 18 3 6 ir18_r ir18 = true := by kernel_rfl
def ir19 : S := .seq (.rg [] [.op (some 2) (.c (.mv (.t 0))),
   .op (some 3) (.c (.mv (.t 0))),
   .op (some 4) (.c (.nilc (.t 3))),
   .op (some 5) (.c (.fldA 2 2 (.t 4))),
   .op (some 6) (.c (.fldA 0 0 (.t 5))),
   .op (some 7) (.c (.ld 1 false (.t 6))),
   .op (some 8) (.c (.lenL (.t 7))),
   .op (some 9) (.call 58 [(.t 2), (.t 8), (.int .i64 8)])] [0] [])
 (.seq (.rg [] [.op (some 10) (.c (.mv (.t 0))),
   .op (some 11) (.call 59 [(.t 10), (.str [105, 115, 115, 117, 101, 114])])] [0] [])
 (.seq (.rgT 14 (.one 0 (.op (some 12) (.c (.mv (.t 0))))
  (.one 1 (.op (some 13) (.c (.mv (.t 0))))
  (.one 2 (.op (some 14) (.c (.nilc (.t 13))))
  (.one 3 (.op (some 15) (.c (.fldA 2 2 (.t 14))))
  (.one 4 (.op (some 16) (.c (.fldA 0 0 (.t 15))))
  (.one 6 (.op (some 18) (.c (.mv (.t 0))))
  (.br (.cons 5 (.op (some 17) (.c (.ld 1 false (.t 16)))) (.one 7 (.op (some 19) (.call 60 [(.t 18)]))
  (.one 8 (.op (some 20) (.bls 1 [.str []] [(0, (.t 19))]))
  (.one 9 (.op (some 21) (.app 9 1 16 (.t 17) (.t 20)))
  (.one 10 (.op (some 22) (.c (.nilc (.t 12))))
  (.one 11 (.op (some 23) (.c (.fldA 2 2 (.t 22))))
  (.one 12 (.op (some 24) (.c (.fldA 0 0 (.t 23))))
  (.one 13 (.op none (.st 1 (.t 24) (.t 21)))
  (.done))))))))
  (.cons 7 (.op (some 19) (.call 60 [(.t 18)])) (.br (.cons 5 (.op (some 17) (.c (.ld 1 false (.t 16)))) (.one 8 (.op (some 20) (.bls 1 [.str []] [(0, (.t 19))]))
  (.one 9 (.op (some 21) (.app 9 1 16 (.t 17) (.t 20)))
  (.one 10 (.op (some 22) (.c (.nilc (.t 12))))
  (.one 11 (.op (some 23) (.c (.fldA 2 2 (.t 22))))
  (.one 12 (.op (some 24) (.c (.fldA 0 0 (.t 23))))
  (.one 13 (.op none (.st 1 (.t 24) (.t 21)))
  (.done)))))))
  (.cons 8 (.op (some 20) (.bls 1 [.str []] [(0, (.t 19))])) (.br (.cons 5 (.op (some 17) (.c (.ld 1 false (.t 16)))) (.one 9 (.op (some 21) (.app 9 1 16 (.t 17) (.t 20)))
  (.one 10 (.op (some 22) (.c (.nilc (.t 12))))
  (.one 11 (.op (some 23) (.c (.fldA 2 2 (.t 22))))
  (.one 12 (.op (some 24) (.c (.fldA 0 0 (.t 23))))
  (.one 13 (.op none (.st 1 (.t 24) (.t 21)))
  (.done))))))
  (.nil)))
  (.nil))))
  (.nil)))))))))) [0] [])
 (.rg [] [.op (some 25) (.c (.mv (.t 0))),
   .op (some 26) (.call 61 [(.t 25), (.str [59])])] [] [])))
theorem ok19 : fnOk Tryz.prog 19 1 ir19 [] = true := by kernel_rfl
def ir20_s0 : S := .seq (.rg [] [.op (some 25) (.c (.mv (.t 0))),
   .op (some 26) (.call 61 [(.t 25), (.str [59])])] [0, 2] [])
 (.rg [0, 1, 2, 3, 4, 5, 6, 7, 8, 9, 10, 11, 12] [.op (some 27) (.c (.mv (.t 0))),
   .op (some 28) (.c (.mv (.t 0))),
   .op (some 29) (.c (.nilc (.t 28))),
   .op (some 30) (.c (.fldA 2 2 (.t 29))),
   .op (some 31) (.c (.fldA 1 1 (.t 30))),
   .op (some 32) (.c (.ld 1 false (.t 31))),
   .op (some 33) (.c (.ld 5 true (.t 2))),
   .op (some 34) (.bls 5 [.agg [.str [], .str [], .int .i64 0, .int .i64 0, .int .i64 0]] [(0, (.t 33))]),
   .op (some 35) (.app 74 5 56 (.t 32) (.t 34)),
   .op (some 36) (.c (.nilc (.t 27))),
   .op (some 37) (.c (.fldA 2 2 (.t 36))),
   .op (some 38) (.c (.fldA 1 1 (.t 37))),
   .op none (.st 1 (.t 38) (.t 35))] [] [])
def ir20 : S := .seq (.rg [] [.op (some 3) (.c (.mv (.t 0))),
   .op (some 4) (.c (.mv (.t 0))),
   .op (some 5) (.c (.nilc (.t 4))),
   .op (some 6) (.c (.fldA 2 2 (.t 5))),
   .op (some 7) (.c (.fldA 1 1 (.t 6))),
   .op (some 8) (.c (.ld 1 false (.t 7))),
   .op (some 9) (.c (.lenL (.t 8))),
   .op (some 10) (.call 58 [(.t 3), (.t 9), (.int .i64 16)])] [0] [])
 (.seq (.rg [] [.op (some 11) (.c (.mv (.t 0))),
   .op (some 12) (.call 59 [(.t 11), (.str [117, 110, 105, 116])])] [0] [])
 (.seq (.rg [] [.op (some 13) (.c (.mv (.t 0))),
   .op (some 14) (.call 60 [(.t 13)]),
   .op (some 15) (.c (.bld [.str [], .str [], .int .i64 0, .int .i64 0, .int .i64 0] [(0, (.t 14))])),
   .op (some 2) (.alloc 74 (.agg [.str [], .str [], .int .i64 0, .int .i64 0, .int .i64 0])),
   .op none (.st 5 (.t 2) (.t 15))] [0, 2] [])
 (.seq (.seq (.rg [] [.op (some 16) (.c (.mv (.t 0))),
   .op (some 17) (.call 62 [(.t 16), (.int .i64 3), (.str [61])])] [0, 2, 17] [])
 (.cond (.t 17) (.seq (.rg [] [.op (some 18) (.c (.mv (.t 0))),
   .op (some 19) (.gld 0 2 true (.agg [.int .i64 2, .int .i64 1000])),
   .op (some 20) (.call 63 [(.t 18), (.t 19)]),
   .op (some 21) (.c (.fldA 2 2 (.t 2))),
   .op none (.st 1 (.t 21) (.t 20))] [0, 2] [])
 (.rg [] [.op (some 22) (.c (.mv (.t 0))),
   .op (some 23) (.call 60 [(.t 22)]),
   .op (some 24) (.c (.fldA 1 1 (.t 2))),
   .op none (.st 1 (.t 24) (.t 23))] [0, 2] [])) (.skip)))
 (ir20_s0))))
theorem ok20 : fnOk Tryz.prog 20 1 ir20 [] = true := by kernel_rfl
def ir25_s0 : S := .rg [] [.op (some 16) (.c (.mv (.t 0))),
   .op (some 17) (.c (.nilc (.t 16))),
   .op (some 18) (.c (.fldA 0 0 (.t 17))),
   .op (some 19) (.c (.ld 1 false (.t 18))),
   .op (some 20) (.c (.idxA 4 (.t 19) (.int .i64 0))),
   .op (some 21) (.c (.fldA 3 3 (.t 20))),
   .op (some 22) (.c (.ld 1 false (.t 21))),
   .op (some 23) (.c (.mv (.t 1))),
   .op (some 24) (.c (.bld [.int .i64 0, .int .i64 0] [(0, (.t 22)), (1, (.t 23))])),
   .op (some 25) (.c (.mki 60 (.t 24))),
   .op none (.panic (.t 25))] [] []
def ir25 : S := .seq (.seq (.rg [] [.op (some 4) (.c (.mv (.t 0))),
   .op (some 5) (.c (.nilc (.t 4))),
   .op (some 6) (.c (.fldA 0 0 (.t 5))),
   .op (some 7) (.c (.ld 1 false (.t 6))),
   .op (some 8) (.c (.lenL (.t 7))),
   .op (some 9) (.c (.bin .eql (.t 8) (.int .i64 0)))] [0, 1, 9] [])
 (.cond (.t 9) (.rg [] [.op (some 10) (.c (.mv (.t 0))),
   .op (some 11) (.c (.nilc (.t 10))),
   .op (some 12) (.c (.fldA 1 1 (.t 11))),
   .op (some 13) (.c (.ld 1 false (.t 12))),
   .op (some 14) (.c (.bld [.int .i64 0, .int .i64 0] [(0, (.t 13)), (1, (.int .i64 100))])),
   .op (some 15) (.c (.mki 60 (.t 14))),
   .op none (.panic (.t 15))] [0, 1] []) (.skip)))
 (ir25_s0)
theorem ok25 : fnOk Tryz.prog 25 2 ir25 [] = true := by kernel_rfl
def ir58 : S := .seq (.rg [] [.op (some 6) (.c (.mv (.t 1))),
   .op (some 7) (.c (.mv (.t 2))),
   .op (some 8) (.c (.bin .eql (.t 6) (.t 7)))] [0, 8] [])
 (.cond (.t 8) (.rg [] [.op (some 9) (.c (.mv (.t 0))),
   .op (some 10) (.call 25 [(.t 9), (.int .i64 2)])] [] []) (.skip))
theorem ok58 : fnOk Tryz.prog 58 3 ir58 [] = true := by kernel_rfl
def ir59 : S := .rg [] [.op (some 4) (.c (.mv (.t 0))),
   .op (some 5) (.c (.mv (.t 1))),
   .op (some 6) (.call 133 [(.t 4), (.int .i64 1), (.t 5)])] [] []
theorem ok59 : fnOk Tryz.prog 59 2 ir59 [] = true := by kernel_rfl
def ir60 : S := .seq (.rg [] [.op (some 2) (.c (.mv (.str [])))] [0] [])
 (.seq (.rg [] [.op (some 3) (.c (.mv (.t 0))),
   .op (some 4) (.call 133 [(.t 3), (.int .i64 1), (.str [])]),
   .op (some 5) (.c (.fld 1 1 1 false (.t 4))),
   .op (some 2) (.c (.mv (.t 5)))] [2] [])
 (.ret))
theorem ok60 : fnOk Tryz.prog 60 1 ir60 [.t 2] = true := by kernel_rfl
def ir61 : S := .rg [] [.op (some 4) (.c (.mv (.t 0))),
   .op (some 5) (.c (.mv (.t 1))),
   .op (some 6) (.call 133 [(.t 4), (.int .i64 3), (.t 5)])] [] []
theorem ok61 : fnOk Tryz.prog 61 2 ir61 [] = true := by kernel_rfl
def ir62 : S := .seq (.rg [] [.op (some 6) (.c (.mv (.bool false)))] [0, 1, 2] [])
 (.seq (.seq (.rg [] [.op (some 7) (.c (.mv (.t 0))),
   .op (some 8) (.c (.mv (.t 1))),
   .op (some 9) (.c (.mv (.t 2))),
   .op (some 10) (.call 65 [(.t 7), (.t 8), (.t 9)]),
   .op (some 11) (.c (.not (.t 10)))] [0, 11] [])
 (.cond (.t 11) (.seq (.rg [] [.op (some 6) (.c (.mv (.bool false)))] [6] [])
 (.ret)) (.skip)))
 (.seq (.rg [] [.op (some 12) (.c (.mv (.t 0))),
   .op (some 13) (.c (.mv (.t 0))),
   .op (some 14) (.c (.nilc (.t 13))),
   .op (some 15) (.c (.fldA 0 0 (.t 14))),
   .op (some 16) (.c (.ld 1 false (.t 15))),
   .op (some 17) (.c (.slcL 4 (.t 16) (some (.int .i64 1)) none)),
   .op (some 18) (.c (.nilc (.t 12))),
   .op (some 19) (.c (.fldA 0 0 (.t 18))),
   .op none (.st 1 (.t 19) (.t 17))] [] [])
 (.seq (.rg [] [.op (some 6) (.c (.mv (.bool true)))] [6] [])
 (.ret))))
theorem ok62 : fnOk Tryz.prog 62 3 ir62 [.t 6] = true := by kernel_rfl
def ir63_s0 : S := .seq (.rg [] [.op (some 22) (.c (.mv (.t 0))),
   .op (some 23) (.call 133 [(.t 22), (.int .i64 2), (.str [])]),
   .op (some 24) (.c (.fld 2 2 1 false (.t 23))),
   .op (some 4) (.c (.mv (.t 24)))] [4] [])
 (.ret)
def ir63 : S := .seq (.rg [] [.op (some 3) (.box 132 (.t 1)),
   .op (some 4) (.c (.mv (.int .i64 0)))] [0, 3] [])
 (.seq (.seq (.rgT 15 (.one 0 (.op (some 5) (.c (.mv (.t 0))))
  (.one 1 (.op (some 6) (.call 65 [(.t 5), (.int .i64 2), (.str [])]))
  (.one 2 (.op (some 7) (.c (.not (.t 6))))
  (.one 3 (.op (some 8) (.c (.mv (.t 7))))
  (.one 5 (.gop 8 false (some 10) (.c (.mv (.t 0))))
  (.one 6 (.gop 8 false (some 11) (.c (.nilc (.t 10))))
  (.one 7 (.gop 8 false (some 12) (.c (.fldA 0 0 (.t 11))))
  (.br (.cons 4 (.gop 8 false (some 9) (.c (.ld 2 true (.t 3)))) (.br (.cons 8 (.gop 8 false (some 13) (.c (.ld 1 false (.t 12)))) (.one 9 (.gop 8 false (some 14) (.c (.idxA 4 (.t 13) (.int .i64 0))))
  (.one 10 (.gop 8 false (some 15) (.c (.fldA 2 2 (.t 14))))
  (.br (.cons 11 (.gop 8 false (some 16) (.c (.ld 1 false (.t 15)))) (.one 12 (.gop 8 false (some 17) (.pcall 134 [(.t 9), (.t 16)]))
  (.one 13 (.gop 8 false (some 18) (.c (.not (.t 17))))
  (.one 14 (.op (some 19) (.c (.pick (.t 8) (.bool true) (.t 18))))
  (.done))))
  (.nil)))))
  (.nil)))
  (.cons 8 (.gop 8 false (some 13) (.c (.ld 1 false (.t 12)))) (.one 9 (.gop 8 false (some 14) (.c (.idxA 4 (.t 13) (.int .i64 0))))
  (.one 10 (.gop 8 false (some 15) (.c (.fldA 2 2 (.t 14))))
  (.br (.cons 4 (.gop 8 false (some 9) (.c (.ld 2 true (.t 3)))) (.br (.cons 11 (.gop 8 false (some 16) (.c (.ld 1 false (.t 15)))) (.one 12 (.gop 8 false (some 17) (.pcall 134 [(.t 9), (.t 16)]))
  (.one 13 (.gop 8 false (some 18) (.c (.not (.t 17))))
  (.one 14 (.op (some 19) (.c (.pick (.t 8) (.bool true) (.t 18))))
  (.done))))
  (.nil)))
  (.cons 11 (.gop 8 false (some 16) (.c (.ld 1 false (.t 15)))) (.br (.cons 4 (.gop 8 false (some 9) (.c (.ld 2 true (.t 3)))) (.one 12 (.gop 8 false (some 17) (.pcall 134 [(.t 9), (.t 16)]))
  (.one 13 (.gop 8 false (some 18) (.c (.not (.t 17))))
  (.one 14 (.op (some 19) (.c (.pick (.t 8) (.bool true) (.t 18))))
  (.done))))
  (.nil)))
  (.nil))))))
  (.nil))))))))))) [0, 19] [])
 (.cond (.t 19) (.rg [] [.op (some 20) (.c (.mv (.t 0))),
   .op (some 21) (.call 25 [(.t 20), (.int .i64 100)])] [0] []) (.skip)))
 (ir63_s0))
theorem ok63 : fnOk Tryz.prog 63 2 ir63 [.t 4] = true := by kernel_rfl
def ir64_l0 : S := .seq (.rg [] [.op (some 5) (.c (.bin .lss (.t 4) (.int .i64 4)))] [0, 2, 4, 5] [])
 (.seq (.cond (.t 5) (.skip) (.exit 0))
 (.seq (.block 1 (.seq (.rg [] [.op (some 6) (.c (.mv (.t 4))),
   .op (some 3) (.c (.mv (.t 6)))] [0, 2, 3, 4] [])
 (.rg [] [.op (some 7) (.c (.mv (.t 3))),
   .op (some 8) (.c (.mv (.t 0))),
   .op (some 9) (.gld 3 2 true (.agg [.int .i64 0, .int .i64 9])),
   .op (some 10) (.call 63 [(.t 8), (.t 9)]),
   .op (some 11) (.c (.idxP 4 1 (.t 2) (.t 7))),
   .op none (.st 1 (.t 11) (.t 10))] [0, 2, 4] [])))
 (.rg [] [.op (some 12) (.c (.bin .add (.t 4) (.int .i64 1))),
   .op (some 4) (.c (.mv (.t 12)))] [0, 2, 4] [])))
def ir64 : S := .seq (.rg [] [.op (some 2) (.alloc 91 (.agg (List.replicate 4 (.int .i64 0))))] [0, 2] [])
 (.seq (.seq (.rg [] [.op (some 4) (.c (.mv (.int .i64 0)))] [0, 2, 4] [])
 (.block 0 (.loop [0, 2, 4] ir64_l0)))
 (.seq (.rg [] [.op (some 13) (.c (.ld 4 true (.t 2))),
   .op none (.st 4 (.t 2) (.t 13))] [2] [])
 (.ret)))
theorem ok64 : fnOk Tryz.prog 64 1 ir64 [.c 2 4 true] = true := by kernel_rfl
def ir65 : S := .seq (.rg [] [.op (some 6) (.c (.mv (.bool false)))] [0, 1, 2] [])
 (.seq (.rg [] [.op (some 7) (.c (.mv (.t 0))),
   .op (some 8) (.c (.nilc (.t 7))),
   .op (some 9) (.c (.fldA 0 0 (.t 8))),
   .op (some 10) (.c (.ld 1 false (.t 9))),
   .op (some 11) (.c (.lenL (.t 10))),
   .op (some 12) (.c (.bin .gtr (.t 11) (.int .i64 0))),
   .op (some 13) (.c (.mv (.t 12))),
   .gop 13 true (some 14) (.c (.mv (.t 0))),
   .gop 13 true (some 15) (.c (.nilc (.t 14))),
   .gop 13 true (some 16) (.c (.fldA 0 0 (.t 15))),
   .gop 13 true (some 17) (.c (.ld 1 false (.t 16))),
   .gop 13 true (some 18) (.c (.idxA 4 (.t 17) (.int .i64 0))),
   .gop 13 true (some 19) (.c (.fldA 0 0 (.t 18))),
   .gop 13 true (some 20) (.c (.ld 1 false (.t 19))),
   .gop 13 true (some 21) (.c (.mv (.t 1))),
   .gop 13 true (some 22) (.c (.bin .eql (.t 20) (.t 21))),
   .op (some 23) (.c (.pick (.t 13) (.t 22) (.bool false))),
   .op (some 24) (.c (.mv (.t 23))),
   .gop 24 true (some 25) (.c (.mv (.t 2))),
   .gop 24 true (some 26) (.c (.bin .eql (.t 25) (.str []))),
   .gop 24 true (some 27) (.c (.mv (.t 26))),
   .gop 27 false (some 28) (.c (.mv (.t 0))),
   .gop 27 false (some 29) (.c (.nilc (.t 28))),
   .gop 27 false (some 30) (.c (.fldA 0 0 (.t 29))),
   .gop 27 false (some 31) (.c (.ld 1 false (.t 30))),
   .gop 27 false (some 32) (.c (.idxA 4 (.t 31) (.int .i64 0))),
   .gop 27 false (some 33) (.c (.fldA 1 1 (.t 32))),
   .gop 27 false (some 34) (.c (.ld 1 false (.t 33))),
   .gop 27 false (some 35) (.c (.mv (.t 2))),
   .gop 27 false (some 36) (.c (.bin .eql (.t 34) (.t 35))),
   .gop 24 true (some 37) (.c (.pick (.t 27) (.bool true) (.t 36))),
   .op (some 38) (.c (.pick (.t 24) (.t 37) (.bool false))),
   .op (some 6) (.c (.mv (.t 38)))] [6] [])
 (.ret))
theorem ok65 : fnOk Tryz.prog 65 3 ir65 [.t 6] = true := by kernel_rfl
def ir66 : S := .seq (.rg [] [.op (some 2) (.alloc 93 (.agg [.str [], .agg [.int .i64 0, .int .i64 0, .int .i64 0, .str [], .int .i64 0, .nils], .agg (List.replicate 4 (.int .i64 0))]))] [0, 2] [])
 (.seq (.rg [] [.op (some 3) (.c (.mv (.t 0))),
   .op (some 4) (.call 59 [(.t 3), (.str [102, 105, 101, 108, 100])])] [0, 2] [])
 (.seq (.rg [] [.op (some 5) (.c (.mv (.t 0))),
   .op (some 6) (.call 60 [(.t 5)]),
   .op (some 7) (.c (.fldA 0 0 (.t 2))),
   .op none (.st 1 (.t 7) (.t 6))] [0, 2] [])
 (.seq (.rg [] [.op (some 8) (.c (.mv (.t 0))),
   .op (some 9) (.call 61 [(.t 8), (.str [58])])] [0, 2] [])
 (.seq (.rg [] [.op (some 10) (.c (.mv (.t 0))),
   .op (some 11) (.call 135 [(.t 10)]),
   .op (some 12) (.c (.fldA 1 1 (.t 2))),
   .op none (.st 6 (.t 12) (.t 11))] [0, 2] [])
 (.seq (.rg [] [.op (some 13) (.c (.mv (.t 0))),
   .op (some 14) (.call 64 [(.t 13)]),
   .op (some 15) (.c (.fldA 2 7 (.t 2))),
   .op none (.st 4 (.t 15) (.t 14))] [0, 2] [])
 (.seq (.rg [] [.op (some 16) (.c (.mv (.t 0))),
   .op (some 17) (.call 61 [(.t 16), (.str [59])])] [2] [])
 (.seq (.rg [] [.op (some 18) (.c (.ld 11 true (.t 2))),
   .op none (.st 11 (.t 2) (.t 18))] [2] [])
 (.ret))))))))
theorem ok66 : fnOk Tryz.prog 66 1 ir66 [.c 2 11 true] = true := by kernel_rfl
def ir67 : S := .seq (.rg [] [.op (some 2) (.alloc 96 (.agg [.nils, .str [], .nils, .int .i64 0]))] [0, 2] [])
 (.seq (.rg [] [.op (some 3) (.c (.mv (.t 0))),
   .op (some 4) (.call 59 [(.t 3), (.str [100, 101, 112, 101, 110, 100])])] [0, 2] [])
 (.seq (.rg [] [.op (some 5) (.c (.mv (.t 0))),
   .op (some 6) (.call 136 [(.t 5), (.int .i64 11)]),
   .op (some 7) (.c (.fldA 0 0 (.t 2))),
   .op none (.st 1 (.t 7) (.t 6))] [0, 2] [])
 (.seq (.rg [] [.op (some 8) (.c (.mv (.t 0))),
   .op (some 9) (.call 59 [(.t 8), (.str [103, 105, 118, 101])])] [0, 2] [])
 (.seq (.rg [] [.op (some 10) (.c (.mv (.t 0))),
   .op (some 11) (.call 60 [(.t 10)]),
   .op (some 12) (.c (.fldA 1 1 (.t 2))),
   .op none (.st 1 (.t 12) (.t 11))] [0, 2] [])
 (.seq (.rg [] [.op (some 13) (.c (.mv (.t 0))),
   .op (some 14) (.call 61 [(.t 13), (.str [59])])] [2] [])
 (.seq (.rg [] [.op (some 15) (.c (.ld 4 true (.t 2))),
   .op none (.st 4 (.t 2) (.t 15))] [2] [])
 (.ret)))))))
theorem ok67 : fnOk Tryz.prog 67 1 ir67 [.c 2 4 true] = true := by kernel_rfl
def ir68_s0 : S := .rg [] [.op (some 17) (.c (.mv (.t 8))),
   .op (some 18) (.c (.mv (.t 3))),
   .op (some 19) (.callv (.t 18) []),
   .op (some 20) (.bls 8 [.agg [.str [], .str [], .int .i64 0, .agg [.str [], .str [], .int .i64 0, .int .i64 0, .int .i64 0]]] [(0, (.t 19))]),
   .op (some 21) (.app 54 8 96 (.t 17) (.t 20)),
   .op (some 8) (.c (.mv (.t 21)))] [0, 1, 2, 3, 8] []
def ir68_l1 : S := .seq (.seq (.rg [] [.op (some 9) (.c (.mv (.t 2))),
   .op (some 10) (.callv (.t 9) [])] [0, 1, 2, 3, 8, 10] [])
 (.cond (.t 10) (.skip) (.exit 0)))
 (.block 1 (.seq (.seq (.rg [] [.op (some 11) (.c (.mv (.t 8))),
   .op (some 12) (.c (.lenL (.t 11))),
   .op (some 13) (.c (.mv (.t 1))),
   .op (some 14) (.c (.bin .eql (.t 12) (.t 13)))] [0, 1, 2, 3, 8, 14] [])
 (.cond (.t 14) (.rg [] [.op (some 15) (.c (.mv (.t 0))),
   .op (some 16) (.call 25 [(.t 15), (.int .i64 2)])] [0, 1, 2, 3, 8] []) (.skip)))
 (ir68_s0)))
def ir68 : S := .seq (.rg [] [.op (some 8) (.nilo 54 8 .nils)] [0, 1, 2, 3, 8] [])
 (.seq (.block 0 (.loop [0, 1, 2, 3, 8] ir68_l1))
 (.seq (.rg [] [.op (some 22) (.mvf (.t 8)),
   .op (some 8) (.c (.mv (.t 22)))] [8] [])
 (.ret)))
theorem ok68 : fnOk Tryz.prog 68 4 ir68 [.t 8] = true := by kernel_rfl
def ir69 : S := .seq (.rg [] [.op (some 2) (.box 63 (.t 0)),
   .op (some 3) (.box 9 (.t 1)),
   .op (some 4) (.c (.mv .nilf))] [2, 3] [])
 (.seq (.rg [] [.op (some 5) (.c (.mkf 137 [] [(.t 2), (.t 3)])),
   .op (some 4) (.c (.mv (.t 5)))] [4] [])
 (.ret))
theorem ok69 : fnOk Tryz.prog 69 2 ir69 [.t 4] = true := by kernel_rfl
def ir70_s0 : S := .seq (.rg [] [.op (some 22) (.c (.mv (.t 0))),
   .op (some 23) (.call 61 [(.t 22), (.str [59])])] [2] [])
 (.seq (.rg [] [.op (some 24) (.c (.ld 8 true (.t 2))),
   .op none (.st 8 (.t 2) (.t 24))] [2] [])
 (.ret))
def ir70 : S := .seq (.rg [] [.op (some 2) (.alloc 54 (.agg [.str [], .str [], .int .i64 0, .agg [.str [], .str [], .int .i64 0, .int .i64 0, .int .i64 0]]))] [0, 2] [])
 (.seq (.rg [] [.op (some 3) (.c (.mv (.t 0))),
   .op (some 4) (.call 59 [(.t 3), (.str [102, 114, 111, 109])])] [0, 2] [])
 (.seq (.rg [] [.op (some 5) (.c (.mv (.t 0))),
   .op (some 6) (.call 60 [(.t 5)]),
   .op (some 7) (.c (.fldA 0 0 (.t 2))),
   .op none (.st 1 (.t 7) (.t 6))] [0, 2] [])
 (.seq (.rg [] [.op (some 8) (.c (.mv (.t 0))),
   .op (some 9) (.call 60 [(.t 8)]),
   .op (some 10) (.c (.fldA 1 1 (.t 2))),
   .op none (.st 1 (.t 10) (.t 9))] [0, 2] [])
 (.seq (.seq (.rg [] [.op (some 11) (.c (.mv (.t 0))),
   .op (some 12) (.call 62 [(.t 11), (.int .i64 1), (.str [111, 102])])] [0, 2, 12] [])
 (.cond (.t 12) (.rg [] [.op (some 14) (.c (.mv (.t 0))),
   .op (some 15) (.call 138 [(.t 14)]),
   .op (some 13) (.c (.mv (.t 15))),
   .op (some 16) (.c (.ext (.t 13) 0)),
   .op (some 17) (.c (.ext (.t 13) 1)),
   .op (some 18) (.c (.fldA 3 3 (.t 2))),
   .op (some 19) (.c (.fldA 0 0 (.t 18))),
   .op none (.st 1 (.t 19) (.t 16)),
   .op (some 20) (.c (.fldA 3 3 (.t 2))),
   .op (some 21) (.c (.fldA 1 1 (.t 20))),
   .op none (.st 1 (.t 21) (.t 17))] [0, 2] []) (.skip)))
 (ir70_s0)))))
theorem ok70 : fnOk Tryz.prog 70 1 ir70 [.c 2 8 true] = true := by kernel_rfl
def ir71_s0 : S := .rg [] [.op (some 17) (.c (.mv (.t 8))),
   .op (some 18) (.c (.mv (.t 3))),
   .op (some 19) (.callv (.t 18) []),
   .op (some 20) (.bls 11 [.agg [.int .i64 0, .agg [.str [], .str [], .int .i64 0, .int .i64 0, .int .i64 0], .agg [.str [], .str [], .int .i64 0, .int .i64 0, .int .i64 0]]] [(0, (.t 19))]),
   .op (some 21) (.app 56 11 120 (.t 17) (.t 20)),
   .op (some 8) (.c (.mv (.t 21)))] [0, 1, 2, 3, 8] []
def ir71_l1 : S := .seq (.seq (.rg [] [.op (some 9) (.c (.mv (.t 2))),
   .op (some 10) (.callv (.t 9) [])] [0, 1, 2, 3, 8, 10] [])
 (.cond (.t 10) (.skip) (.exit 0)))
 (.block 1 (.seq (.seq (.rg [] [.op (some 11) (.c (.mv (.t 8))),
   .op (some 12) (.c (.lenL (.t 11))),
   .op (some 13) (.c (.mv (.t 1))),
   .op (some 14) (.c (.bin .eql (.t 12) (.t 13)))] [0, 1, 2, 3, 8, 14] [])
 (.cond (.t 14) (.rg [] [.op (some 15) (.c (.mv (.t 0))),
   .op (some 16) (.call 25 [(.t 15), (.int .i64 2)])] [0, 1, 2, 3, 8] []) (.skip)))
 (ir71_s0)))
def ir71 : S := .seq (.rg [] [.op (some 8) (.nilo 56 11 .nils)] [0, 1, 2, 3, 8] [])
 (.seq (.block 0 (.loop [0, 1, 2, 3, 8] ir71_l1))
 (.seq (.rg [] [.op (some 22) (.mvf (.t 8)),
   .op (some 8) (.c (.mv (.t 22)))] [8] [])
 (.ret)))
theorem ok71 : fnOk Tryz.prog 71 4 ir71 [.t 8] = true := by kernel_rfl
def ir72_s0 : S := .seq (.rg [] [.op (some 24) (.c (.mv (.t 0))),
   .op (some 25) (.call 139 [(.t 24)]),
   .op (some 26) (.c (.fldA 2 6 (.t 2))),
   .op none (.st 5 (.t 26) (.t 25))] [0, 2] [])
 (.seq (.rg [] [.op (some 27) (.c (.mv (.t 0))),
   .op (some 28) (.call 61 [(.t 27), (.str [59])])] [2] [])
 (.seq (.rg [] [.op (some 29) (.c (.ld 11 true (.t 2))),
   .op none (.st 11 (.t 2) (.t 29))] [2] [])
 (.ret)))
def ir72 : S := .seq (.rg [] [.op (some 2) (.alloc 56 (.agg [.int .i64 0, .agg [.str [], .str [], .int .i64 0, .int .i64 0, .int .i64 0], .agg [.str [], .str [], .int .i64 0, .int .i64 0, .int .i64 0]]))] [0, 2] [])
 (.seq (.rg [] [.op (some 3) (.c (.mv (.t 0))),
   .op (some 4) (.call 59 [(.t 3), (.str [119, 104, 101, 114, 101])])] [0, 2] [])
 (.seq (.rg [] [.op (some 5) (.c (.mv (.t 0))),
   .op (some 6) (.call 139 [(.t 5)]),
   .op (some 7) (.c (.fldA 1 1 (.t 2))),
   .op none (.st 5 (.t 7) (.t 6))] [0, 2] [])
 (.seq (.block 0 (.seq (.rg [] [.op (some 14) (.c (.mv (.t 0))),
   .op (some 15) (.call 62 [(.t 14), (.int .i64 3), (.str [61])]),
   .op (some 13) (.c (.mv (.t 15)))] [0, 2, 13] [])
 (.cond (.t 13) (.rg [] [.op (some 16) (.c (.fldA 0 0 (.t 2))),
   .op none (.st 1 (.t 16) (.int .i64 1))] [0, 2] []) (.seq (.rg [] [.op (some 18) (.c (.mv (.t 0))),
   .op (some 19) (.call 62 [(.t 18), (.int .i64 3), (.str [60])]),
   .op (some 17) (.c (.mv (.t 19)))] [0, 2, 17] [])
 (.cond (.t 17) (.seq (.rg [] [.op (some 20) (.c (.fldA 0 0 (.t 2))),
   .op none (.st 1 (.t 20) (.int .i64 2))] [0, 2] [])
 (.seq (.rg [] [.op (some 21) (.c (.mv (.t 0))),
   .op (some 22) (.call 62 [(.t 21), (.int .i64 3), (.str [61])])] [0, 2, 22] [])
 (.cond (.t 22) (.rg [] [.op (some 23) (.c (.fldA 0 0 (.t 2))),
   .op none (.st 1 (.t 23) (.int .i64 3))] [0, 2] []) (.skip)))) (.seq (.rg [] [.op (some 8) (.c (.mv (.t 0))),
   .op (some 9) (.call 61 [(.t 8), (.str [33])])] [0, 2] [])
 (.seq (.rg [] [.op (some 10) (.c (.mv (.t 0))),
   .op (some 11) (.call 61 [(.t 10), (.str [61])])] [0, 2] [])
 (.rg [] [.op (some 12) (.c (.fldA 0 0 (.t 2))),
   .op none (.st 1 (.t 12) (.int .i64 4))] [0, 2] []))))))))
 (ir72_s0))))
theorem ok72 : fnOk Tryz.prog 72 1 ir72 [.c 2 11 true] = true := by kernel_rfl
def ir73_s0 : S := .rg [] [.op (some 17) (.c (.mv (.t 8))),
   .op (some 18) (.c (.mv (.t 3))),
   .op (some 19) (.callv (.t 18) []),
   .op (some 20) (.bls 7 [.agg [.str [], .int .i64 0, .agg [.str [], .str [], .int .i64 0, .int .i64 0, .int .i64 0]]] [(0, (.t 19))]),
   .op (some 21) (.app 58 7 80 (.t 17) (.t 20)),
   .op (some 8) (.c (.mv (.t 21)))] [0, 1, 2, 3, 8] []
def ir73_l1 : S := .seq (.seq (.rg [] [.op (some 9) (.c (.mv (.t 2))),
   .op (some 10) (.callv (.t 9) [])] [0, 1, 2, 3, 8, 10] [])
 (.cond (.t 10) (.skip) (.exit 0)))
 (.block 1 (.seq (.seq (.rg [] [.op (some 11) (.c (.mv (.t 8))),
   .op (some 12) (.c (.lenL (.t 11))),
   .op (some 13) (.c (.mv (.t 1))),
   .op (some 14) (.c (.bin .eql (.t 12) (.t 13)))] [0, 1, 2, 3, 8, 14] [])
 (.cond (.t 14) (.rg [] [.op (some 15) (.c (.mv (.t 0))),
   .op (some 16) (.call 25 [(.t 15), (.int .i64 2)])] [0, 1, 2, 3, 8] []) (.skip)))
 (ir73_s0)))
def ir73 : S := .seq (.rg [] [.op (some 8) (.nilo 58 7 .nils)] [0, 1, 2, 3, 8] [])
 (.seq (.block 0 (.loop [0, 1, 2, 3, 8] ir73_l1))
 (.seq (.rg [] [.op (some 22) (.mvf (.t 8)),
   .op (some 8) (.c (.mv (.t 22)))] [8] [])
 (.ret)))
theorem ok73 : fnOk Tryz.prog 73 4 ir73 [.t 8] = true := by kernel_rfl
def ir74 : S := .seq (.rg [] [.op (some 2) (.alloc 58 (.agg [.str [], .int .i64 0, .agg [.str [], .str [], .int .i64 0, .int .i64 0, .int .i64 0]]))] [0, 2] [])
 (.seq (.rg [] [.op (some 3) (.c (.mv (.t 0))),
   .op (some 4) (.call 59 [(.t 3), (.str [115, 101, 116])])] [0, 2] [])
 (.seq (.rg [] [.op (some 5) (.c (.mv (.t 0))),
   .op (some 6) (.call 60 [(.t 5)]),
   .op (some 7) (.c (.fldA 0 0 (.t 2))),
   .op none (.st 1 (.t 7) (.t 6))] [0, 2] [])
 (.seq (.rg [] [.op (some 8) (.c (.mv (.t 0))),
   .op (some 9) (.call 61 [(.t 8), (.str [61])])] [0, 2] [])
 (.seq (.rg [] [.op (some 10) (.c (.mv (.t 0))),
   .op (some 11) (.call 139 [(.t 10)]),
   .op (some 12) (.c (.fldA 2 2 (.t 2))),
   .op none (.st 5 (.t 12) (.t 11))] [0, 2] [])
 (.seq (.rg [] [.op (some 13) (.c (.mv (.t 0))),
   .op (some 14) (.call 61 [(.t 13), (.str [59])])] [2] [])
 (.seq (.rg [] [.op (some 15) (.c (.ld 7 true (.t 2))),
   .op none (.st 7 (.t 2) (.t 15))] [2] [])
 (.ret)))))))
theorem ok74 : fnOk Tryz.prog 74 1 ir74 [.c 2 7 true] = true := by kernel_rfl
def ir75_s0 : S := .rg [] [.op (some 17) (.c (.mv (.t 8))),
   .op (some 18) (.c (.mv (.t 3))),
   .op (some 19) (.callv (.t 18) []),
   .op (some 20) (.bls 5 [.agg [.str [], .str [], .int .i64 0, .int .i64 0, .int .i64 0]] [(0, (.t 19))]),
   .op (some 21) (.app 112 5 56 (.t 17) (.t 20)),
   .op (some 8) (.c (.mv (.t 21)))] [0, 1, 2, 3, 8] []
def ir75_l1 : S := .seq (.seq (.rg [] [.op (some 9) (.c (.mv (.t 2))),
   .op (some 10) (.callv (.t 9) [])] [0, 1, 2, 3, 8, 10] [])
 (.cond (.t 10) (.skip) (.exit 0)))
 (.block 1 (.seq (.seq (.rg [] [.op (some 11) (.c (.mv (.t 8))),
   .op (some 12) (.c (.lenL (.t 11))),
   .op (some 13) (.c (.mv (.t 1))),
   .op (some 14) (.c (.bin .eql (.t 12) (.t 13)))] [0, 1, 2, 3, 8, 14] [])
 (.cond (.t 14) (.rg [] [.op (some 15) (.c (.mv (.t 0))),
   .op (some 16) (.call 25 [(.t 15), (.int .i64 2)])] [0, 1, 2, 3, 8] []) (.skip)))
 (ir75_s0)))
def ir75 : S := .seq (.rg [] [.op (some 8) (.nilo 112 5 .nils)] [0, 1, 2, 3, 8] [])
 (.seq (.block 0 (.loop [0, 1, 2, 3, 8] ir75_l1))
 (.seq (.rg [] [.op (some 22) (.mvf (.t 8)),
   .op (some 8) (.c (.mv (.t 22)))] [8] [])
 (.ret)))
theorem ok75 : fnOk Tryz.prog 75 4 ir75 [.t 8] = true := by kernel_rfl
def ir76_s0 : S := .seq (.rg [] [.op (some 24) (.c (.mv (.t 0))),
   .op (some 25) (.call 61 [(.t 24), (.str [59])])] [2] [])
 (.seq (.rg [] [.op (some 26) (.c (.ld 5 true (.t 2))),
   .op none (.st 5 (.t 2) (.t 26))] [2] [])
 (.ret))
def ir76 : S := .seq (.rg [] [.op (some 2) (.alloc 112 (.agg [.str [], .str [], .int .i64 0, .int .i64 0, .int .i64 0]))] [0, 2] [])
 (.seq (.rg [] [.op (some 3) (.c (.mv (.t 0))),
   .op (some 4) (.call 60 [(.t 3)]),
   .op (some 5) (.c (.fldA 0 0 (.t 2))),
   .op none (.st 1 (.t 5) (.t 4))] [0, 2] [])
 (.seq (.rg [] [.op (some 6) (.c (.mv (.t 0))),
   .op (some 7) (.call 61 [(.t 6), (.str [61])])] [0, 2] [])
 (.seq (.rg [] [.op (some 8) (.c (.mv (.t 0))),
   .op (some 9) (.call 60 [(.t 8)]),
   .op (some 10) (.c (.fldA 1 1 (.t 2))),
   .op none (.st 1 (.t 10) (.t 9))] [0, 2] [])
 (.seq (.seq (.rg [] [.op (some 11) (.c (.mv (.t 0))),
   .op (some 12) (.call 62 [(.t 11), (.int .i64 3), (.str [43])])] [0, 2, 12] [])
 (.cond (.t 12) (.rg [] [.op (some 13) (.c (.mv (.t 0))),
   .op (some 14) (.gld 4 2 true (.agg [.int .i64 0, .int .i64 1048576])),
   .op (some 15) (.call 63 [(.t 13), (.t 14)]),
   .op (some 16) (.c (.fldA 4 4 (.t 2))),
   .op none (.st 1 (.t 16) (.t 15))] [0, 2] []) (.seq (.rg [] [.op (some 17) (.c (.mv (.t 0))),
   .op (some 18) (.call 62 [(.t 17), (.int .i64 3), (.str [45])])] [0, 2, 18] [])
 (.cond (.t 18) (.rg [] [.op (some 19) (.c (.mv (.t 0))),
   .op (some 20) (.gld 4 2 true (.agg [.int .i64 0, .int .i64 1048576])),
   .op (some 21) (.call 63 [(.t 19), (.t 20)]),
   .op (some 22) (.c (.neg (.t 21))),
   .op (some 23) (.c (.fldA 4 4 (.t 2))),
   .op none (.st 1 (.t 23) (.t 22))] [0, 2] []) (.skip)))))
 (ir76_s0)))))
theorem ok76 : fnOk Tryz.prog 76 1 ir76 [.c 2 5 true] = true := by kernel_rfl
def ir77_s0 : S := .rg [] [.op (some 17) (.c (.mv (.t 8))),
   .op (some 18) (.c (.mv (.t 3))),
   .op (some 19) (.callv (.t 18) []),
   .op (some 20) (.bls 4 [.agg [.str [], .str [], .int .i64 0, .int .i64 0]] [(0, (.t 19))]),
   .op (some 21) (.app 107 4 48 (.t 17) (.t 20)),
   .op (some 8) (.c (.mv (.t 21)))] [0, 1, 2, 3, 8] []
def ir77_l1 : S := .seq (.seq (.rg [] [.op (some 9) (.c (.mv (.t 2))),
   .op (some 10) (.callv (.t 9) [])] [0, 1, 2, 3, 8, 10] [])
 (.cond (.t 10) (.skip) (.exit 0)))
 (.block 1 (.seq (.seq (.rg [] [.op (some 11) (.c (.mv (.t 8))),
   .op (some 12) (.c (.lenL (.t 11))),
   .op (some 13) (.c (.mv (.t 1))),
   .op (some 14) (.c (.bin .eql (.t 12) (.t 13)))] [0, 1, 2, 3, 8, 14] [])
 (.cond (.t 14) (.rg [] [.op (some 15) (.c (.mv (.t 0))),
   .op (some 16) (.call 25 [(.t 15), (.int .i64 2)])] [0, 1, 2, 3, 8] []) (.skip)))
 (ir77_s0)))
def ir77 : S := .seq (.rg [] [.op (some 8) (.nilo 107 4 .nils)] [0, 1, 2, 3, 8] [])
 (.seq (.block 0 (.loop [0, 1, 2, 3, 8] ir77_l1))
 (.seq (.rg [] [.op (some 22) (.mvf (.t 8)),
   .op (some 8) (.c (.mv (.t 22)))] [8] [])
 (.ret)))
theorem ok77 : fnOk Tryz.prog 77 4 ir77 [.t 8] = true := by kernel_rfl
def ir78 : S := .seq (.rg [] [.op (some 2) (.alloc 107 (.agg [.str [], .str [], .int .i64 0, .int .i64 0]))] [0, 2] [])
 (.seq (.rg [] [.op (some 3) (.c (.mv (.t 0))),
   .op (some 4) (.call 59 [(.t 3), (.str [109, 97, 121])])] [0, 2] [])
 (.seq (.rg [] [.op (some 6) (.c (.mv (.t 0))),
   .op (some 7) (.call 138 [(.t 6)]),
   .op (some 5) (.c (.mv (.t 7))),
   .op (some 8) (.c (.ext (.t 5) 0)),
   .op (some 9) (.c (.ext (.t 5) 1)),
   .op (some 10) (.c (.fldA 0 0 (.t 2))),
   .op none (.st 1 (.t 10) (.t 8)),
   .op (some 11) (.c (.fldA 1 1 (.t 2))),
   .op none (.st 1 (.t 11) (.t 9))] [0, 2] [])
 (.seq (.rg [] [.op (some 12) (.c (.mv (.t 0))),
   .op (some 13) (.call 61 [(.t 12), (.str [59])])] [2] [])
 (.seq (.rg [] [.op (some 14) (.c (.ld 4 true (.t 2))),
   .op none (.st 4 (.t 2) (.t 14))] [2] [])
 (.ret)))))
theorem ok78 : fnOk Tryz.prog 78 1 ir78 [.c 2 4 true] = true := by kernel_rfl
def ir133_s0 : S := .seq (.rg [] [.op (some 15) (.c (.mv (.t 0))),
   .op (some 16) (.c (.nilc (.t 15))),
   .op (some 17) (.c (.fldA 0 0 (.t 16))),
   .op (some 18) (.c (.ld 1 false (.t 17))),
   .op (some 19) (.c (.idxA 4 (.t 18) (.int .i64 0))),
   .op (some 20) (.c (.ld 4 true (.t 19))),
   .op (some 7) (.alloc 44 (.agg [.int .i64 0, .str [], .int .i64 0, .int .i64 0])),
   .op none (.st 4 (.t 7) (.t 20))] [0, 6, 7] [])
 (.seq (.rg [] [.op (some 21) (.c (.mv (.t 0))),
   .op (some 22) (.c (.mv (.t 0))),
   .op (some 23) (.c (.nilc (.t 22))),
   .op (some 24) (.c (.fldA 0 0 (.t 23))),
   .op (some 25) (.c (.ld 1 false (.t 24))),
   .op (some 26) (.c (.slcL 4 (.t 25) (some (.int .i64 1)) none)),
   .op (some 27) (.c (.nilc (.t 21))),
   .op (some 28) (.c (.fldA 0 0 (.t 27))),
   .op none (.st 1 (.t 28) (.t 26))] [6, 7] [])
 (.seq (.rg [] [.op (some 29) (.c (.ld 4 true (.t 7))),
   .op none (.st 4 (.t 6) (.t 29))] [6] [])
 (.ret)))
def ir133 : S := .seq (.rg [] [.op (some 6) (.alloc 44 (.agg [.int .i64 0, .str [], .int .i64 0, .int .i64 0]))] [0, 1, 2, 6] [])
 (.seq (.seq (.rg [] [.op (some 8) (.c (.mv (.t 0))),
   .op (some 9) (.c (.mv (.t 1))),
   .op (some 10) (.c (.mv (.t 2))),
   .op (some 11) (.call 65 [(.t 8), (.t 9), (.t 10)]),
   .op (some 12) (.c (.not (.t 11)))] [0, 6, 12] [])
 (.cond (.t 12) (.rg [] [.op (some 13) (.c (.mv (.t 0))),
   .op (some 14) (.call 25 [(.t 13), (.int .i64 100)])] [0, 6] []) (.skip)))
 (ir133_s0))
theorem ok133 : fnOk Tryz.prog 133 3 ir133 [.c 6 4 true] = true := by kernel_rfl
def ir134 : S := .seq (.rg [] [.op (some 2) (.box 132 (.t 0)),
   .op (some 4) (.c (.mv (.bool false)))] [1, 2] [])
 (.seq (.rg [] [.op (some 5) (.c (.fldA 0 0 (.t 2))),
   .op (some 6) (.c (.ld 1 false (.t 5))),
   .op (some 7) (.c (.mv (.t 1))),
   .op (some 8) (.c (.bin .leq (.t 6) (.t 7))),
   .op (some 9) (.c (.mv (.t 8))),
   .gop 9 true (some 10) (.c (.mv (.t 1))),
   .gop 9 true (some 11) (.c (.fldA 1 1 (.t 2))),
   .gop 9 true (some 12) (.c (.ld 1 false (.t 11))),
   .gop 9 true (some 13) (.c (.bin .leq (.t 10) (.t 12))),
   .op (some 14) (.c (.pick (.t 9) (.t 13) (.bool false))),
   .op (some 4) (.c (.mv (.t 14)))] [4] [])
 (.ret))
theorem ok134 : fnOk Tryz.prog 134 2 ir134 [.t 4] = true := by kernel_rfl
def ir135_s0 : S := .seq (.rg [] [.op (some 46) (.c (.ld 6 true (.t 2))),
   .op none (.st 6 (.t 2) (.t 46))] [2] [])
 (.ret)
def ir135 : S := .seq (.rg [] [.op (some 2) (.alloc 90 (.agg [.int .i64 0, .int .i64 0, .int .i64 0, .str [], .int .i64 0, .nils]))] [0, 2] [])
 (.seq (.block 0 (.seq (.rg [] [.op (some 6) (.c (.mv (.t 0))),
   .op (some 7) (.call 62 [(.t 6), (.int .i64 1), (.str [110, 117, 109, 98, 101, 114])]),
   .op (some 5) (.c (.mv (.t 7)))] [0, 2, 5] [])
 (.cond (.t 5) (.seq (.rg [] [.op (some 8) (.c (.fldA 0 0 (.t 2))),
   .op none (.st 1 (.t 8) (.int .i64 1))] [0, 2] [])
 (.seq (.rg [] [.op (some 9) (.c (.mv (.t 0))),
   .op (some 10) (.gld 4 2 true (.agg [.int .i64 0, .int .i64 1048576])),
   .op (some 11) (.call 63 [(.t 9), (.t 10)]),
   .op (some 12) (.c (.fldA 1 1 (.t 2))),
   .op none (.st 1 (.t 12) (.t 11))] [0, 2] [])
 (.seq (.rg [] [.op (some 13) (.c (.mv (.t 0))),
   .op (some 14) (.call 59 [(.t 13), (.str [116, 111])])] [0, 2] [])
 (.seq (.rg [] [.op (some 15) (.c (.mv (.t 0))),
   .op (some 16) (.gld 4 2 true (.agg [.int .i64 0, .int .i64 1048576])),
   .op (some 17) (.call 63 [(.t 15), (.t 16)]),
   .op (some 18) (.c (.fldA 2 2 (.t 2))),
   .op none (.st 1 (.t 18) (.t 17))] [0, 2] [])
 (.seq (.rg [] [.op (some 19) (.c (.mv (.t 0))),
   .op (some 20) (.call 62 [(.t 19), (.int .i64 1), (.str [105, 110])])] [0, 2, 20] [])
 (.cond (.t 20) (.rg [] [.op (some 21) (.c (.mv (.t 0))),
   .op (some 22) (.call 60 [(.t 21)]),
   .op (some 23) (.c (.fldA 3 3 (.t 2))),
   .op none (.st 1 (.t 23) (.t 22))] [2] []) (.skip))))))) (.seq (.rg [] [.op (some 25) (.c (.mv (.t 0))),
   .op (some 26) (.call 62 [(.t 25), (.int .i64 1), (.str [100, 97, 116, 101])]),
   .op (some 24) (.c (.mv (.t 26)))] [0, 2, 24] [])
 (.cond (.t 24) (.rg [] [.op (some 27) (.c (.fldA 0 0 (.t 2))),
   .op none (.st 1 (.t 27) (.int .i64 2)),
   .op (some 28) (.c (.fldA 2 2 (.t 2))),
   .op none (.st 1 (.t 28) (.int .i64 1023))] [2] []) (.seq (.rg [] [.op (some 30) (.c (.mv (.t 0))),
   .op (some 31) (.call 62 [(.t 30), (.int .i64 1), (.str [112, 101, 114, 115, 111, 110])]),
   .op (some 29) (.c (.mv (.t 31)))] [0, 2, 29] [])
 (.cond (.t 29) (.rg [] [.op (some 32) (.c (.fldA 0 0 (.t 2))),
   .op none (.st 1 (.t 32) (.int .i64 3)),
   .op (some 33) (.c (.fldA 2 2 (.t 2))),
   .op none (.st 1 (.t 33) (.int .i64 4095))] [2] []) (.seq (.rg [] [.op (some 35) (.c (.mv (.t 0))),
   .op (some 36) (.call 62 [(.t 35), (.int .i64 1), (.str [99, 104, 111, 105, 99, 101])]),
   .op (some 34) (.c (.mv (.t 36)))] [0, 2, 34] [])
 (.cond (.t 34) (.seq (.rg [] [.op (some 37) (.c (.fldA 0 0 (.t 2))),
   .op none (.st 1 (.t 37) (.int .i64 4))] [0, 2] [])
 (.seq (.rg [] [.op (some 38) (.c (.mv (.t 0))),
   .op (some 39) (.call 136 [(.t 38), (.int .i64 16)]),
   .op (some 40) (.c (.fldA 5 5 (.t 2))),
   .op none (.st 1 (.t 40) (.t 39))] [2] [])
 (.rg [] [.op (some 41) (.c (.fldA 5 5 (.t 2))),
   .op (some 42) (.c (.ld 1 false (.t 41))),
   .op (some 43) (.c (.lenL (.t 42))),
   .op (some 44) (.c (.bin .sub (.t 43) (.int .i64 1))),
   .op (some 45) (.c (.fldA 2 2 (.t 2))),
   .op none (.st 1 (.t 45) (.t 44))] [2] []))) (.rg [] [.op (some 3) (.c (.mv (.t 0))),
   .op (some 4) (.call 25 [(.t 3), (.int .i64 100)])] [2] []))))))))))
 (ir135_s0))
theorem ok135 : fnOk Tryz.prog 135 1 ir135 [.c 2 6 true] = true := by kernel_rfl
def ir136 : S := .seq (.rg [] [.op (some 2) (.box 63 (.t 0)),
   .op (some 4) (.mvf .nils)] [1, 2] [])
 (.seq (.rg [] [.op (some 7) (.c (.ld 1 false (.t 2))),
   .op (some 8) (.call 60 [(.t 7)]),
   .op (some 5) (.c (.mv (.t 8)))] [1, 2, 5] [])
 (.seq (.rg [] [.op (some 9) (.c (.mkf 175 [] [(.t 2)])),
   .op (some 6) (.c (.mv (.t 9)))] [1, 2, 5, 6] [])
 (.seq (.rg [] [.op (some 10) (.c (.mv (.t 5))),
   .op (some 11) (.blo 9 1 [.str []] [(0, (.t 10))]),
   .op (some 12) (.c (.ld 1 false (.t 2))),
   .op (some 13) (.c (.mv (.t 1))),
   .op (some 14) (.c (.bin .sub (.t 13) (.int .i64 1))),
   .op (some 15) (.c (.mv (.t 6))),
   .op (some 16) (.c (.mkf 177 [] [(.t 2)])),
   .op (some 17) (.call 176 [(.t 12), (.t 14), (.t 15), (.t 16)]),
   .op (some 18) (.app 9 1 16 (.t 11) (.t 17)),
   .op (some 4) (.mvf (.t 18))] [4] [])
 (.ret))))
theorem ok136 : fnOk Tryz.prog 136 2 ir136 [.t 4] = true := by kernel_rfl
def ir137 : S := .seq (.rg [] [.op (some 2) (.c (.mv (.bool false)))] [0, 1] [])
 (.seq (.rg [] [.op (some 3) (.c (.ld 1 false (.t 0))),
   .op (some 4) (.c (.ld 1 false (.t 1))),
   .op (some 5) (.call 65 [(.t 3), (.int .i64 1), (.t 4)]),
   .op (some 2) (.c (.mv (.t 5)))] [2] [])
 (.ret))
theorem ok137 : fnOk Tryz.prog 137 2 ir137 [.t 2] = true := by kernel_rfl
def ir138 : S := .seq (.rg [] [.op (some 2) (.c (.mv (.str []))),
   .op (some 3) (.c (.mv (.str [])))] [0] [])
 (.seq (.rg [] [.op (some 4) (.c (.mv (.t 0))),
   .op (some 5) (.call 60 [(.t 4)]),
   .op (some 2) (.c (.mv (.t 5)))] [0, 2] [])
 (.seq (.rg [] [.op (some 6) (.c (.mv (.t 0))),
   .op (some 7) (.call 61 [(.t 6), (.str [46])])] [0, 2] [])
 (.seq (.rg [] [.op (some 8) (.c (.mv (.t 2))),
   .op (some 9) (.c (.mv (.t 0))),
   .op (some 10) (.call 60 [(.t 9)]),
   .op (some 2) (.c (.mv (.t 8))),
   .op (some 3) (.c (.mv (.t 10)))] [2, 3] [])
 (.ret))))
theorem ok138 : fnOk Tryz.prog 138 1 ir138 [.t 2, .t 3] = true := by kernel_rfl
def ir139 : S := .seq (.rg [] [.op (some 2) (.alloc 52 (.agg [.str [], .str [], .int .i64 0, .int .i64 0, .int .i64 0]))] [0, 2] [])
 (.seq (.seq (.rg [] [.op (some 3) (.c (.mv (.t 0))),
   .op (some 4) (.call 65 [(.t 3), (.int .i64 2), (.str [])])] [0, 2, 4] [])
 (.cond (.t 4) (.seq (.rg [] [.op (some 5) (.c (.mv (.t 0))),
   .op (some 6) (.gld 4 2 true (.agg [.int .i64 0, .int .i64 1048576])),
   .op (some 7) (.call 63 [(.t 5), (.t 6)]),
   .op (some 8) (.c (.bld [.str [], .str [], .int .i64 0, .int .i64 0, .int .i64 0] [(4, (.t 7)), (2, (.int .i64 (-1)))])),
   .op none (.st 5 (.t 2) (.t 8))] [2] [])
 (.ret)) (.skip)))
 (.seq (.rg [] [.op (some 10) (.c (.mv (.t 0))),
   .op (some 11) (.call 138 [(.t 10)]),
   .op (some 9) (.c (.mv (.t 11))),
   .op (some 12) (.c (.ext (.t 9) 0)),
   .op (some 13) (.c (.ext (.t 9) 1)),
   .op (some 14) (.c (.fldA 0 0 (.t 2))),
   .op none (.st 1 (.t 14) (.t 12)),
   .op (some 15) (.c (.fldA 1 1 (.t 2))),
   .op none (.st 1 (.t 15) (.t 13))] [2] [])
 (.seq (.rg [] [.op (some 16) (.c (.ld 5 true (.t 2))),
   .op none (.st 5 (.t 2) (.t 16))] [2] [])
 (.ret))))
theorem ok139 : fnOk Tryz.prog 139 1 ir139 [.c 2 5 true] = true := by kernel_rfl
def ir175 : S := .seq (.rg [] [.op (some 1) (.c (.mv (.bool false)))] [0] [])
 (.seq (.rg [] [.op (some 2) (.c (.ld 1 false (.t 0))),
   .op (some 3) (.call 65 [(.t 2), (.int .i64 3), (.str [44])]),
   .op (some 1) (.c (.mv (.t 3)))] [1] [])
 (.ret))
theorem ok175 : fnOk Tryz.prog 175 1 ir175 [.t 1] = true := by kernel_rfl
def ir176_s0 : S := .rg [] [.op (some 17) (.c (.mv (.t 8))),
   .op (some 18) (.c (.mv (.t 3))),
   .op (some 19) (.callv (.t 18) []),
   .op (some 20) (.bls 1 [.str []] [(0, (.t 19))]),
   .op (some 21) (.app 9 1 16 (.t 17) (.t 20)),
   .op (some 8) (.c (.mv (.t 21)))] [0, 1, 2, 3, 8] []
def ir176_l1 : S := .seq (.seq (.rg [] [.op (some 9) (.c (.mv (.t 2))),
   .op (some 10) (.callv (.t 9) [])] [0, 1, 2, 3, 8, 10] [])
 (.cond (.t 10) (.skip) (.exit 0)))
 (.block 1 (.seq (.seq (.rg [] [.op (some 11) (.c (.mv (.t 8))),
   .op (some 12) (.c (.lenL (.t 11))),
   .op (some 13) (.c (.mv (.t 1))),
   .op (some 14) (.c (.bin .eql (.t 12) (.t 13)))] [0, 1, 2, 3, 8, 14] [])
 (.cond (.t 14) (.rg [] [.op (some 15) (.c (.mv (.t 0))),
   .op (some 16) (.call 25 [(.t 15), (.int .i64 2)])] [0, 1, 2, 3, 8] []) (.skip)))
 (ir176_s0)))
def ir176 : S := .seq (.rg [] [.op (some 8) (.nilo 9 1 .nils)] [0, 1, 2, 3, 8] [])
 (.seq (.block 0 (.loop [0, 1, 2, 3, 8] ir176_l1))
 (.seq (.rg [] [.op (some 22) (.mvf (.t 8)),
   .op (some 8) (.c (.mv (.t 22)))] [8] [])
 (.ret)))
theorem ok176 : fnOk Tryz.prog 176 4 ir176 [.t 8] = true := by kernel_rfl
def ir177 : S := .seq (.rg [] [.op (some 1) (.c (.mv (.str [])))] [0] [])
 (.seq (.rg [] [.op (some 2) (.c (.ld 1 false (.t 0))),
   .op (some 3) (.call 61 [(.t 2), (.str [44])])] [0] [])
 (.seq (.rg [] [.op (some 4) (.c (.ld 1 false (.t 0))),
   .op (some 5) (.call 60 [(.t 4)]),
   .op (some 1) (.c (.mv (.t 5)))] [1] [])
 (.ret)))
theorem ok177 : fnOk Tryz.prog 177 1 ir177 [.t 1] = true := by kernel_rfl
end Go.Proofs.YtanpgmgkmfckaaaGreatDoor
/- The same statements with their regions folded into expressions, printed by the fold itself; that they are that is checked by the kernel. No condition. -/
namespace Go.Proofs.YtanpgmgkmfckaaaGreatDoor
open Go Go.Ab
set_option maxRecDepth 100000
def lt18_s0 : S2 := .rgT (.one 0 (.op (some 17) (.c (.bld [.nils, .nils, .nils, .nils, .nils, .nils] [])))
  (.one 1 (.op (some 18) (.c (.fldA 0 0 (.t 4))))
  (.one 3 (.op (some 20) (.c (.fldA 1 1 (.t 4))))
  (.br (.cons 2 (.op (some 19) (.c (.ld 1 false (.t 18)))) (.br (.cons 4 (.op (some 21) (.c (.ld 1 false (.t 20)))) (.one 5 (.op none (.st 6 (.t 0) (.t 17)))
  (.one 6 (.op none (.st 1 (.t 1) (.t 19)))
  (.one 7 (.op none (.st 1 (.t 2) (.t 21)))
  (.done))))
  (.cons 5 (.op none (.st 6 (.t 0) (.t 17))) (.br (.cons 4 (.op (some 21) (.c (.ld 1 false (.t 20)))) (.one 6 (.op none (.st 1 (.t 1) (.t 19)))
  (.one 7 (.op none (.st 1 (.t 2) (.t 21)))
  (.done)))
  (.cons 6 (.op none (.st 1 (.t 1) (.t 19))) (.br (.cons 4 (.op (some 21) (.c (.ld 1 false (.t 20)))) (.one 7 (.op none (.st 1 (.t 2) (.t 21)))
  (.done))
  (.nil)))
  (.nil))))
  (.nil))))
  (.cons 4 (.op (some 21) (.c (.ld 1 false (.t 20)))) (.br (.cons 2 (.op (some 19) (.c (.ld 1 false (.t 18)))) (.one 5 (.op none (.st 6 (.t 0) (.t 17)))
  (.one 6 (.op none (.st 1 (.t 1) (.t 19)))
  (.one 7 (.op none (.st 1 (.t 2) (.t 21)))
  (.done))))
  (.cons 5 (.op none (.st 6 (.t 0) (.t 17))) (.br (.cons 2 (.op (some 19) (.c (.ld 1 false (.t 18)))) (.one 6 (.op none (.st 1 (.t 1) (.t 19)))
  (.one 7 (.op none (.st 1 (.t 2) (.t 21)))
  (.done)))
  (.nil)))
  (.nil))))
  (.cons 5 (.op none (.st 6 (.t 0) (.t 17))) (.br (.cons 2 (.op (some 19) (.c (.ld 1 false (.t 18)))) (.br (.cons 4 (.op (some 21) (.c (.ld 1 false (.t 20)))) (.one 6 (.op none (.st 1 (.t 1) (.t 19)))
  (.one 7 (.op none (.st 1 (.t 2) (.t 21)))
  (.done)))
  (.cons 6 (.op none (.st 1 (.t 1) (.t 19))) (.br (.cons 4 (.op (some 21) (.c (.ld 1 false (.t 20)))) (.one 7 (.op none (.st 1 (.t 2) (.t 21)))
  (.done))
  (.nil)))
  (.nil))))
  (.cons 4 (.op (some 21) (.c (.ld 1 false (.t 20)))) (.br (.cons 2 (.op (some 19) (.c (.ld 1 false (.t 18)))) (.one 6 (.op none (.st 1 (.t 1) (.t 19)))
  (.one 7 (.op none (.st 1 (.t 2) (.t 21)))
  (.done)))
  (.nil)))
  (.nil))))
  (.nil)))))))) [] []
def lt18_r : List It2 := []
def lt18_k : List (Nat × E) := [(0, (.a (.t 0))), (1, (.a (.t 1))), (2, (.a (.t 2))), (3, (.a (.t 6)))]
theorem lr18 : liftR [] ir18_k [] ir18_r [] [] [] = some (lt18_r, lt18_k) := by kernel_rfl
def lt18 : S2 := .seq (.rg [] [(0, (.a (.t 0))), (1, (.a (.t 1))), (2, (.a (.t 2))), (3, (.a (.t 3))), (8, (.u (.isnil false (.t 0)) (.a (.t 3))))] [])
 (.cond (.t 8) (.seq (.rg [.chk [] (.u (.ext (.t 0) 1) (.u (.tas 60 (.agg [(.int .i64 0), (.int .i64 0)]) (.t 0)) (.a (.t 3)))), .chk [] (.u (.ext (.t 0) 0) (.u (.tas 60 (.agg [(.int .i64 0), (.int .i64 0)]) (.t 0)) (.a (.t 3)))), .op (some 4) (.alloc 60 (.agg [(.int .i64 0), (.int .i64 0)])), .lt 12 [] (.u (.ext (.t 0) 0) (.u (.tas 60 (.agg [(.int .i64 0), (.int .i64 0)]) (.t 0)) (.a (.t 3)))), .op none (.st 2 (.t 4) (.t 12))] [(0, (.a (.t 0))), (1, (.a (.t 1))), (2, (.a (.t 2))), (3, (.a (.t 3))), (4, (.a (.t 4))), (5, (.u (.ext (.t 0) 1) (.u (.tas 60 (.agg [(.int .i64 0), (.int .i64 0)]) (.t 0)) (.a (.t 3)))))] [])
 (.seq (.seq (.rg [] [(0, (.a (.t 0))), (1, (.a (.t 1))), (2, (.a (.t 2))), (3, (.a (.t 3))), (4, (.a (.t 4))), (15, (.u (.not (.t 0)) (.a (.t 5))))] [])
 (.cond (.t 15) (.rg [.lt 16 [] (.a (.t 3)), .op none (.panic (.t 16))] [(0, (.a (.t 0))), (1, (.a (.t 1))), (2, (.a (.t 2))), (4, (.a (.t 4)))] []) (.skip)))
 (lt18_s0))) (.skip))
theorem lf18 : ir18.lift [] = some lt18 := by kernel_rfl
def lt19 : S2 := .seq (.rg [.chk [] (.u (.lenL (.t 0)) (.u (.ld 1 false (.t 0)) (.u (.fldA 0 0 (.t 0)) (.u (.fldA 2 2 (.t 0)) (.u (.nilc (.t 0)) (.a (.t 0))))))), .lt 8 [] (.u (.lenL (.t 0)) (.u (.ld 1 false (.t 0)) (.u (.fldA 0 0 (.t 0)) (.u (.fldA 2 2 (.t 0)) (.u (.nilc (.t 0)) (.a (.t 0))))))), .lt 2 [] (.a (.t 0)), .op (some 9) (.call 58 [(.t 2), (.t 8), (.int .i64 8)])] [(0, (.a (.t 0)))] [])
 (.seq (.rg [.lt 10 [] (.a (.t 0)), .op (some 11) (.call 59 [(.t 10), (.str [105, 115, 115, 117, 101, 114])])] [(0, (.a (.t 0)))] [])
 (.seq (.rgT (.one 0 (.op (some 12) (.c (.mv (.t 0))))
  (.one 1 (.op (some 13) (.c (.mv (.t 0))))
  (.one 2 (.op (some 14) (.c (.nilc (.t 13))))
  (.one 3 (.op (some 15) (.c (.fldA 2 2 (.t 14))))
  (.one 4 (.op (some 16) (.c (.fldA 0 0 (.t 15))))
  (.one 6 (.op (some 18) (.c (.mv (.t 0))))
  (.br (.cons 5 (.op (some 17) (.c (.ld 1 false (.t 16)))) (.one 7 (.op (some 19) (.call 60 [(.t 18)]))
  (.one 8 (.op (some 20) (.bls 1 [.str []] [(0, (.t 19))]))
  (.one 9 (.op (some 21) (.app 9 1 16 (.t 17) (.t 20)))
  (.one 10 (.op (some 22) (.c (.nilc (.t 12))))
  (.one 11 (.op (some 23) (.c (.fldA 2 2 (.t 22))))
  (.one 12 (.op (some 24) (.c (.fldA 0 0 (.t 23))))
  (.one 13 (.op none (.st 1 (.t 24) (.t 21)))
  (.done))))))))
  (.cons 7 (.op (some 19) (.call 60 [(.t 18)])) (.br (.cons 5 (.op (some 17) (.c (.ld 1 false (.t 16)))) (.one 8 (.op (some 20) (.bls 1 [.str []] [(0, (.t 19))]))
  (.one 9 (.op (some 21) (.app 9 1 16 (.t 17) (.t 20)))
  (.one 10 (.op (some 22) (.c (.nilc (.t 12))))
  (.one 11 (.op (some 23) (.c (.fldA 2 2 (.t 22))))
  (.one 12 (.op (some 24) (.c (.fldA 0 0 (.t 23))))
  (.one 13 (.op none (.st 1 (.t 24) (.t 21)))
  (.done)))))))
  (.cons 8 (.op (some 20) (.bls 1 [.str []] [(0, (.t 19))])) (.br (.cons 5 (.op (some 17) (.c (.ld 1 false (.t 16)))) (.one 9 (.op (some 21) (.app 9 1 16 (.t 17) (.t 20)))
  (.one 10 (.op (some 22) (.c (.nilc (.t 12))))
  (.one 11 (.op (some 23) (.c (.fldA 2 2 (.t 22))))
  (.one 12 (.op (some 24) (.c (.fldA 0 0 (.t 23))))
  (.one 13 (.op none (.st 1 (.t 24) (.t 21)))
  (.done))))))
  (.nil)))
  (.nil))))
  (.nil)))))))))) [0] [])
 (.rg [.lt 25 [] (.a (.t 0)), .op (some 26) (.call 61 [(.t 25), (.str [59])])] [] [])))
theorem lf19 : ir19.lift [] = some lt19 := by kernel_rfl
def lt20_s0 : S2 := .seq (.rg [.lt 25 [] (.a (.t 0)), .op (some 26) (.call 61 [(.t 25), (.str [59])])] [(0, (.a (.t 0))), (2, (.a (.t 2)))] [])
 (.rg [.chk [] (.u (.ld 5 true (.t 0)) (.a (.t 2))), .chk [] (.u (.ld 1 false (.t 0)) (.u (.fldA 1 1 (.t 0)) (.u (.fldA 2 2 (.t 0)) (.u (.nilc (.t 0)) (.a (.t 0)))))), .lt 33 [] (.u (.ld 5 true (.t 0)) (.a (.t 2))), .lt 32 [] (.u (.ld 1 false (.t 0)) (.u (.fldA 1 1 (.t 0)) (.u (.fldA 2 2 (.t 0)) (.u (.nilc (.t 0)) (.a (.t 0)))))), .op (some 34) (.bls 5 [(.agg [(.str []), (.str []), (.int .i64 0), (.int .i64 0), (.int .i64 0)])] [(0, (.t 33))]), .op (some 35) (.app 74 5 56 (.t 32) (.t 34)), .chk [] (.u (.fldA 1 1 (.t 0)) (.u (.fldA 2 2 (.t 0)) (.u (.nilc (.t 0)) (.a (.t 0))))), .lt 38 [] (.u (.fldA 1 1 (.t 0)) (.u (.fldA 2 2 (.t 0)) (.u (.nilc (.t 0)) (.a (.t 0))))), .op none (.st 1 (.t 38) (.t 35))] [] [])
def lt20 : S2 := .seq (.rg [.chk [] (.u (.lenL (.t 0)) (.u (.ld 1 false (.t 0)) (.u (.fldA 1 1 (.t 0)) (.u (.fldA 2 2 (.t 0)) (.u (.nilc (.t 0)) (.a (.t 0))))))), .lt 9 [] (.u (.lenL (.t 0)) (.u (.ld 1 false (.t 0)) (.u (.fldA 1 1 (.t 0)) (.u (.fldA 2 2 (.t 0)) (.u (.nilc (.t 0)) (.a (.t 0))))))), .lt 3 [] (.a (.t 0)), .op (some 10) (.call 58 [(.t 3), (.t 9), (.int .i64 16)])] [(0, (.a (.t 0)))] [])
 (.seq (.rg [.lt 11 [] (.a (.t 0)), .op (some 12) (.call 59 [(.t 11), (.str [117, 110, 105, 116])])] [(0, (.a (.t 0)))] [])
 (.seq (.rg [.lt 13 [] (.a (.t 0)), .op (some 14) (.call 60 [(.t 13)]), .op (some 15) (.c (.bld [(.str []), (.str []), (.int .i64 0), (.int .i64 0), (.int .i64 0)] [(0, (.t 14))])), .op (some 2) (.alloc 74 (.agg [(.str []), (.str []), (.int .i64 0), (.int .i64 0), (.int .i64 0)])), .op none (.st 5 (.t 2) (.t 15))] [(0, (.a (.t 0))), (2, (.a (.t 2)))] [])
 (.seq (.seq (.rg [.lt 16 [] (.a (.t 0)), .op (some 17) (.call 62 [(.t 16), (.int .i64 3), (.str [61])])] [(0, (.a (.t 0))), (2, (.a (.t 2))), (17, (.a (.t 17)))] [])
 (.cond (.t 17) (.seq (.rg [.op (some 19) (.gld 0 2 true (.agg [(.int .i64 2), (.int .i64 1000)])), .lt 18 [] (.a (.t 0)), .op (some 20) (.call 63 [(.t 18), (.t 19)]), .chk [] (.u (.fldA 2 2 (.t 0)) (.a (.t 2))), .lt 21 [] (.u (.fldA 2 2 (.t 0)) (.a (.t 2))), .op none (.st 1 (.t 21) (.t 20))] [(0, (.a (.t 0))), (2, (.a (.t 2)))] [])
 (.rg [.lt 22 [] (.a (.t 0)), .op (some 23) (.call 60 [(.t 22)]), .chk [] (.u (.fldA 1 1 (.t 0)) (.a (.t 2))), .lt 24 [] (.u (.fldA 1 1 (.t 0)) (.a (.t 2))), .op none (.st 1 (.t 24) (.t 23))] [(0, (.a (.t 0))), (2, (.a (.t 2)))] [])) (.skip)))
 (lt20_s0))))
theorem lf20 : ir20.lift [] = some lt20 := by kernel_rfl
def lt25_s0 : S2 := .rg [.chk [] (.u (.ld 1 false (.t 0)) (.u (.fldA 3 3 (.t 0)) (.b (.idxA 4 (.t 0) (.t 1)) (.u (.ld 1 false (.t 0)) (.u (.fldA 0 0 (.t 0)) (.u (.nilc (.t 0)) (.a (.t 0))))) (.a (.int .i64 0))))), .lt 23 [] (.a (.t 1)), .lt 22 [] (.u (.ld 1 false (.t 0)) (.u (.fldA 3 3 (.t 0)) (.b (.idxA 4 (.t 0) (.t 1)) (.u (.ld 1 false (.t 0)) (.u (.fldA 0 0 (.t 0)) (.u (.nilc (.t 0)) (.a (.t 0))))) (.a (.int .i64 0))))), .op (some 24) (.c (.bld [(.int .i64 0), (.int .i64 0)] [(0, (.t 22)), (1, (.t 23))])), .chk [] (.u (.mki 60 (.t 0)) (.a (.t 24))), .lt 25 [] (.u (.mki 60 (.t 0)) (.a (.t 24))), .op none (.panic (.t 25))] [] []
def lt25 : S2 := .seq (.seq (.rg [] [(0, (.a (.t 0))), (1, (.a (.t 1))), (9, (.b (.bin .eql (.t 0) (.t 1)) (.u (.lenL (.t 0)) (.u (.ld 1 false (.t 0)) (.u (.fldA 0 0 (.t 0)) (.u (.nilc (.t 0)) (.a (.t 0)))))) (.a (.int .i64 0))))] [])
 (.cond (.t 9) (.rg [.chk [] (.u (.ld 1 false (.t 0)) (.u (.fldA 1 1 (.t 0)) (.u (.nilc (.t 0)) (.a (.t 0))))), .lt 13 [] (.u (.ld 1 false (.t 0)) (.u (.fldA 1 1 (.t 0)) (.u (.nilc (.t 0)) (.a (.t 0))))), .op (some 14) (.c (.bld [(.int .i64 0), (.int .i64 0)] [(0, (.t 13)), (1, (.int .i64 100))])), .chk [] (.u (.mki 60 (.t 0)) (.a (.t 14))), .lt 15 [] (.u (.mki 60 (.t 0)) (.a (.t 14))), .op none (.panic (.t 15))] [(0, (.a (.t 0))), (1, (.a (.t 1)))] []) (.skip)))
 (lt25_s0)
theorem lf25 : ir25.lift [] = some lt25 := by kernel_rfl
def lt58 : S2 := .seq (.rg [] [(0, (.a (.t 0))), (8, (.b (.bin .eql (.t 0) (.t 1)) (.a (.t 1)) (.a (.t 2))))] [])
 (.cond (.t 8) (.rg [.lt 9 [] (.a (.t 0)), .op (some 10) (.call 25 [(.t 9), (.int .i64 2)])] [] []) (.skip))
theorem lf58 : ir58.lift [] = some lt58 := by kernel_rfl
def lt59 : S2 := .rg [.lt 5 [] (.a (.t 1)), .lt 4 [] (.a (.t 0)), .op (some 6) (.call 133 [(.t 4), (.int .i64 1), (.t 5)])] [] []
theorem lf59 : ir59.lift [] = some lt59 := by kernel_rfl
def lt60 : S2 := .seq (.rg [] [(0, (.a (.t 0)))] [])
 (.seq (.rg [.lt 3 [] (.a (.t 0)), .op (some 4) (.call 133 [(.t 3), (.int .i64 1), (.str [])])] [(2, (.u (.fld 1 1 1 false (.t 0)) (.a (.t 4))))] [])
 (.ret))
theorem lf60 : ir60.lift [] = some lt60 := by kernel_rfl
def lt61 : S2 := .rg [.lt 5 [] (.a (.t 1)), .lt 4 [] (.a (.t 0)), .op (some 6) (.call 133 [(.t 4), (.int .i64 3), (.t 5)])] [] []
theorem lf61 : ir61.lift [] = some lt61 := by kernel_rfl
def lt62 : S2 := .seq (.rg [] [(0, (.a (.t 0))), (1, (.a (.t 1))), (2, (.a (.t 2)))] [])
 (.seq (.seq (.rg [.lt 9 [] (.a (.t 2)), .lt 8 [] (.a (.t 1)), .lt 7 [] (.a (.t 0)), .op (some 10) (.call 65 [(.t 7), (.t 8), (.t 9)])] [(0, (.a (.t 0))), (11, (.u (.not (.t 0)) (.a (.t 10))))] [])
 (.cond (.t 11) (.seq (.rg [] [(6, (.a (.bool false)))] [])
 (.ret)) (.skip)))
 (.seq (.rg [.chk [] (.u (.fldA 0 0 (.t 0)) (.u (.nilc (.t 0)) (.a (.t 0)))), .chk [] (.b (.slcL 4 (.t 0) (some (.t 1)) none) (.u (.ld 1 false (.t 0)) (.u (.fldA 0 0 (.t 0)) (.u (.nilc (.t 0)) (.a (.t 0))))) (.a (.int .i64 1))), .lt 19 [] (.u (.fldA 0 0 (.t 0)) (.u (.nilc (.t 0)) (.a (.t 0)))), .lt 17 [] (.b (.slcL 4 (.t 0) (some (.t 1)) none) (.u (.ld 1 false (.t 0)) (.u (.fldA 0 0 (.t 0)) (.u (.nilc (.t 0)) (.a (.t 0))))) (.a (.int .i64 1))), .op none (.st 1 (.t 19) (.t 17))] [] [])
 (.seq (.rg [] [(6, (.a (.bool true)))] [])
 (.ret))))
theorem lf62 : ir62.lift [] = some lt62 := by kernel_rfl
def lt63_s0 : S2 := .seq (.rg [.lt 22 [] (.a (.t 0)), .op (some 23) (.call 133 [(.t 22), (.int .i64 2), (.str [])])] [(4, (.u (.fld 2 2 1 false (.t 0)) (.a (.t 23))))] [])
 (.ret)
def lt63 : S2 := .seq (.rg [.op (some 3) (.box 132 (.t 1))] [(0, (.a (.t 0))), (3, (.a (.t 3)))] [])
 (.seq (.seq (.rgT (.one 0 (.op (some 5) (.c (.mv (.t 0))))
  (.one 1 (.op (some 6) (.call 65 [(.t 5), (.int .i64 2), (.str [])]))
  (.one 2 (.op (some 7) (.c (.not (.t 6))))
  (.one 3 (.op (some 8) (.c (.mv (.t 7))))
  (.one 5 (.gop 8 false (some 10) (.c (.mv (.t 0))))
  (.one 6 (.gop 8 false (some 11) (.c (.nilc (.t 10))))
  (.one 7 (.gop 8 false (some 12) (.c (.fldA 0 0 (.t 11))))
  (.br (.cons 4 (.gop 8 false (some 9) (.c (.ld 2 true (.t 3)))) (.br (.cons 8 (.gop 8 false (some 13) (.c (.ld 1 false (.t 12)))) (.one 9 (.gop 8 false (some 14) (.c (.idxA 4 (.t 13) (.int .i64 0))))
  (.one 10 (.gop 8 false (some 15) (.c (.fldA 2 2 (.t 14))))
  (.br (.cons 11 (.gop 8 false (some 16) (.c (.ld 1 false (.t 15)))) (.one 12 (.gop 8 false (some 17) (.pcall 134 [(.t 9), (.t 16)]))
  (.one 13 (.gop 8 false (some 18) (.c (.not (.t 17))))
  (.one 14 (.op (some 19) (.c (.pick (.t 8) (.bool true) (.t 18))))
  (.done))))
  (.nil)))))
  (.nil)))
  (.cons 8 (.gop 8 false (some 13) (.c (.ld 1 false (.t 12)))) (.one 9 (.gop 8 false (some 14) (.c (.idxA 4 (.t 13) (.int .i64 0))))
  (.one 10 (.gop 8 false (some 15) (.c (.fldA 2 2 (.t 14))))
  (.br (.cons 4 (.gop 8 false (some 9) (.c (.ld 2 true (.t 3)))) (.br (.cons 11 (.gop 8 false (some 16) (.c (.ld 1 false (.t 15)))) (.one 12 (.gop 8 false (some 17) (.pcall 134 [(.t 9), (.t 16)]))
  (.one 13 (.gop 8 false (some 18) (.c (.not (.t 17))))
  (.one 14 (.op (some 19) (.c (.pick (.t 8) (.bool true) (.t 18))))
  (.done))))
  (.nil)))
  (.cons 11 (.gop 8 false (some 16) (.c (.ld 1 false (.t 15)))) (.br (.cons 4 (.gop 8 false (some 9) (.c (.ld 2 true (.t 3)))) (.one 12 (.gop 8 false (some 17) (.pcall 134 [(.t 9), (.t 16)]))
  (.one 13 (.gop 8 false (some 18) (.c (.not (.t 17))))
  (.one 14 (.op (some 19) (.c (.pick (.t 8) (.bool true) (.t 18))))
  (.done))))
  (.nil)))
  (.nil))))))
  (.nil))))))))))) [0, 19] [])
 (.cond (.t 19) (.rg [.lt 20 [] (.a (.t 0)), .op (some 21) (.call 25 [(.t 20), (.int .i64 100)])] [(0, (.a (.t 0)))] []) (.skip)))
 (lt63_s0))
theorem lf63 : ir63.lift [134] = some lt63 := by kernel_rfl
def lt64_l0 : S2 := .seq (.rg [] [(0, (.a (.t 0))), (2, (.a (.t 2))), (4, (.a (.t 4))), (5, (.b (.bin .lss (.t 0) (.t 1)) (.a (.t 4)) (.a (.int .i64 4))))] [])
 (.seq (.cond (.t 5) (.skip) (.exit 0))
 (.seq (.block 1 (.seq (.rg [] [(0, (.a (.t 0))), (2, (.a (.t 2))), (3, (.a (.t 4))), (4, (.a (.t 4)))] [])
 (.rg [.op (some 9) (.gld 3 2 true (.agg [(.int .i64 0), (.int .i64 9)])), .lt 8 [] (.a (.t 0)), .op (some 10) (.call 63 [(.t 8), (.t 9)]), .chk [] (.b (.idxP 4 1 (.t 0) (.t 1)) (.a (.t 2)) (.a (.t 3))), .lt 11 [] (.b (.idxP 4 1 (.t 0) (.t 1)) (.a (.t 2)) (.a (.t 3))), .op none (.st 1 (.t 11) (.t 10))] [(0, (.a (.t 0))), (2, (.a (.t 2))), (4, (.a (.t 4)))] [])))
 (.rg [] [(0, (.a (.t 0))), (2, (.a (.t 2))), (4, (.b (.bin .add (.t 0) (.t 1)) (.a (.t 4)) (.a (.int .i64 1))))] [])))
def lt64 : S2 := .seq (.rg [.op (some 2) (.alloc 91 (.agg [(.int .i64 0), (.int .i64 0), (.int .i64 0), (.int .i64 0)]))] [(0, (.a (.t 0))), (2, (.a (.t 2)))] [])
 (.seq (.seq (.rg [] [(0, (.a (.t 0))), (2, (.a (.t 2))), (4, (.a (.int .i64 0)))] [])
 (.block 0 (.loop [0, 2, 4] lt64_l0)))
 (.seq (.rg [.chk [] (.u (.ld 4 true (.t 0)) (.a (.t 2))), .lt 13 [] (.u (.ld 4 true (.t 0)) (.a (.t 2))), .op none (.st 4 (.t 2) (.t 13))] [(2, (.a (.t 2)))] [])
 (.ret)))
theorem lf64 : ir64.lift [] = some lt64 := by kernel_rfl
def lt65 : S2 := .seq (.rg [] [(0, (.a (.t 0))), (1, (.a (.t 1))), (2, (.a (.t 2)))] [])
 (.seq (.rg [] [(6, (.ite (.ite (.b (.bin .gtr (.t 0) (.t 1)) (.u (.lenL (.t 0)) (.u (.ld 1 false (.t 0)) (.u (.fldA 0 0 (.t 0)) (.u (.nilc (.t 0)) (.a (.t 0)))))) (.a (.int .i64 0))) (.b (.bin .eql (.t 0) (.t 1)) (.u (.ld 1 false (.t 0)) (.u (.fldA 0 0 (.t 0)) (.b (.idxA 4 (.t 0) (.t 1)) (.u (.ld 1 false (.t 0)) (.u (.fldA 0 0 (.t 0)) (.u (.nilc (.t 0)) (.a (.t 0))))) (.a (.int .i64 0))))) (.a (.t 1))) (.a (.bool false))) (.ite (.b (.bin .eql (.t 0) (.t 1)) (.a (.t 2)) (.a (.str []))) (.a (.bool true)) (.b (.bin .eql (.t 0) (.t 1)) (.u (.ld 1 false (.t 0)) (.u (.fldA 1 1 (.t 0)) (.b (.idxA 4 (.t 0) (.t 1)) (.u (.ld 1 false (.t 0)) (.u (.fldA 0 0 (.t 0)) (.u (.nilc (.t 0)) (.a (.t 0))))) (.a (.int .i64 0))))) (.a (.t 2)))) (.a (.bool false))))] [])
 (.ret))
theorem lf65 : ir65.lift [] = some lt65 := by kernel_rfl
def lt66 : S2 := .seq (.rg [.op (some 2) (.alloc 93 (.agg [(.str []), (.agg [(.int .i64 0), (.int .i64 0), (.int .i64 0), (.str []), (.int .i64 0), .nils]), (.agg [(.int .i64 0), (.int .i64 0), (.int .i64 0), (.int .i64 0)])]))] [(0, (.a (.t 0))), (2, (.a (.t 2)))] [])
 (.seq (.rg [.lt 3 [] (.a (.t 0)), .op (some 4) (.call 59 [(.t 3), (.str [102, 105, 101, 108, 100])])] [(0, (.a (.t 0))), (2, (.a (.t 2)))] [])
 (.seq (.rg [.lt 5 [] (.a (.t 0)), .op (some 6) (.call 60 [(.t 5)]), .chk [] (.u (.fldA 0 0 (.t 0)) (.a (.t 2))), .lt 7 [] (.u (.fldA 0 0 (.t 0)) (.a (.t 2))), .op none (.st 1 (.t 7) (.t 6))] [(0, (.a (.t 0))), (2, (.a (.t 2)))] [])
 (.seq (.rg [.lt 8 [] (.a (.t 0)), .op (some 9) (.call 61 [(.t 8), (.str [58])])] [(0, (.a (.t 0))), (2, (.a (.t 2)))] [])
 (.seq (.rg [.lt 10 [] (.a (.t 0)), .op (some 11) (.call 135 [(.t 10)]), .chk [] (.u (.fldA 1 1 (.t 0)) (.a (.t 2))), .lt 12 [] (.u (.fldA 1 1 (.t 0)) (.a (.t 2))), .op none (.st 6 (.t 12) (.t 11))] [(0, (.a (.t 0))), (2, (.a (.t 2)))] [])
 (.seq (.rg [.lt 13 [] (.a (.t 0)), .op (some 14) (.call 64 [(.t 13)]), .chk [] (.u (.fldA 2 7 (.t 0)) (.a (.t 2))), .lt 15 [] (.u (.fldA 2 7 (.t 0)) (.a (.t 2))), .op none (.st 4 (.t 15) (.t 14))] [(0, (.a (.t 0))), (2, (.a (.t 2)))] [])
 (.seq (.rg [.lt 16 [] (.a (.t 0)), .op (some 17) (.call 61 [(.t 16), (.str [59])])] [(2, (.a (.t 2)))] [])
 (.seq (.rg [.chk [] (.u (.ld 11 true (.t 0)) (.a (.t 2))), .lt 18 [] (.u (.ld 11 true (.t 0)) (.a (.t 2))), .op none (.st 11 (.t 2) (.t 18))] [(2, (.a (.t 2)))] [])
 (.ret))))))))
theorem lf66 : ir66.lift [] = some lt66 := by kernel_rfl
def lt67 : S2 := .seq (.rg [.op (some 2) (.alloc 96 (.agg [.nils, (.str []), .nils, (.int .i64 0)]))] [(0, (.a (.t 0))), (2, (.a (.t 2)))] [])
 (.seq (.rg [.lt 3 [] (.a (.t 0)), .op (some 4) (.call 59 [(.t 3), (.str [100, 101, 112, 101, 110, 100])])] [(0, (.a (.t 0))), (2, (.a (.t 2)))] [])
 (.seq (.rg [.lt 5 [] (.a (.t 0)), .op (some 6) (.call 136 [(.t 5), (.int .i64 11)]), .chk [] (.u (.fldA 0 0 (.t 0)) (.a (.t 2))), .lt 7 [] (.u (.fldA 0 0 (.t 0)) (.a (.t 2))), .op none (.st 1 (.t 7) (.t 6))] [(0, (.a (.t 0))), (2, (.a (.t 2)))] [])
 (.seq (.rg [.lt 8 [] (.a (.t 0)), .op (some 9) (.call 59 [(.t 8), (.str [103, 105, 118, 101])])] [(0, (.a (.t 0))), (2, (.a (.t 2)))] [])
 (.seq (.rg [.lt 10 [] (.a (.t 0)), .op (some 11) (.call 60 [(.t 10)]), .chk [] (.u (.fldA 1 1 (.t 0)) (.a (.t 2))), .lt 12 [] (.u (.fldA 1 1 (.t 0)) (.a (.t 2))), .op none (.st 1 (.t 12) (.t 11))] [(0, (.a (.t 0))), (2, (.a (.t 2)))] [])
 (.seq (.rg [.lt 13 [] (.a (.t 0)), .op (some 14) (.call 61 [(.t 13), (.str [59])])] [(2, (.a (.t 2)))] [])
 (.seq (.rg [.chk [] (.u (.ld 4 true (.t 0)) (.a (.t 2))), .lt 15 [] (.u (.ld 4 true (.t 0)) (.a (.t 2))), .op none (.st 4 (.t 2) (.t 15))] [(2, (.a (.t 2)))] [])
 (.ret)))))))
theorem lf67 : ir67.lift [] = some lt67 := by kernel_rfl
def lt68_s0 : S2 := .rg [.lt 18 [] (.a (.t 3)), .op (some 19) (.callv (.t 18) []), .op (some 20) (.bls 8 [(.agg [(.str []), (.str []), (.int .i64 0), (.agg [(.str []), (.str []), (.int .i64 0), (.int .i64 0), (.int .i64 0)])])] [(0, (.t 19))]), .lt 17 [] (.a (.t 8)), .op (some 21) (.app 54 8 96 (.t 17) (.t 20))] [(0, (.a (.t 0))), (1, (.a (.t 1))), (2, (.a (.t 2))), (3, (.a (.t 3))), (8, (.a (.t 21)))] []
def lt68_l1 : S2 := .seq (.seq (.rg [.lt 9 [] (.a (.t 2)), .op (some 10) (.callv (.t 9) [])] [(0, (.a (.t 0))), (1, (.a (.t 1))), (2, (.a (.t 2))), (3, (.a (.t 3))), (8, (.a (.t 8))), (10, (.a (.t 10)))] [])
 (.cond (.t 10) (.skip) (.exit 0)))
 (.block 1 (.seq (.seq (.rg [] [(0, (.a (.t 0))), (1, (.a (.t 1))), (2, (.a (.t 2))), (3, (.a (.t 3))), (8, (.a (.t 8))), (14, (.b (.bin .eql (.t 0) (.t 1)) (.u (.lenL (.t 0)) (.a (.t 8))) (.a (.t 1))))] [])
 (.cond (.t 14) (.rg [.lt 15 [] (.a (.t 0)), .op (some 16) (.call 25 [(.t 15), (.int .i64 2)])] [(0, (.a (.t 0))), (1, (.a (.t 1))), (2, (.a (.t 2))), (3, (.a (.t 3))), (8, (.a (.t 8)))] []) (.skip)))
 (lt68_s0)))
def lt68 : S2 := .seq (.rg [.op (some 8) (.nilo 54 8 .nils)] [(0, (.a (.t 0))), (1, (.a (.t 1))), (2, (.a (.t 2))), (3, (.a (.t 3))), (8, (.a (.t 8)))] [])
 (.seq (.block 0 (.loop [0, 1, 2, 3, 8] lt68_l1))
 (.seq (.rg [.op (some 22) (.mvf (.t 8))] [(8, (.a (.t 22)))] [])
 (.ret)))
theorem lf68 : ir68.lift [] = some lt68 := by kernel_rfl
def lt69 : S2 := .seq (.rg [.op (some 2) (.box 63 (.t 0)), .op (some 3) (.box 9 (.t 1))] [(2, (.a (.t 2))), (3, (.a (.t 3)))] [])
 (.seq (.rg [.op (some 5) (.c (.mkf 137 [] [(.t 2), (.t 3)]))] [(4, (.a (.t 5)))] [])
 (.ret))
theorem lf69 : ir69.lift [] = some lt69 := by kernel_rfl
def lt70_s0 : S2 := .seq (.rg [.lt 22 [] (.a (.t 0)), .op (some 23) (.call 61 [(.t 22), (.str [59])])] [(2, (.a (.t 2)))] [])
 (.seq (.rg [.chk [] (.u (.ld 8 true (.t 0)) (.a (.t 2))), .lt 24 [] (.u (.ld 8 true (.t 0)) (.a (.t 2))), .op none (.st 8 (.t 2) (.t 24))] [(2, (.a (.t 2)))] [])
 (.ret))
def lt70 : S2 := .seq (.rg [.op (some 2) (.alloc 54 (.agg [(.str []), (.str []), (.int .i64 0), (.agg [(.str []), (.str []), (.int .i64 0), (.int .i64 0), (.int .i64 0)])]))] [(0, (.a (.t 0))), (2, (.a (.t 2)))] [])
 (.seq (.rg [.lt 3 [] (.a (.t 0)), .op (some 4) (.call 59 [(.t 3), (.str [102, 114, 111, 109])])] [(0, (.a (.t 0))), (2, (.a (.t 2)))] [])
 (.seq (.rg [.lt 5 [] (.a (.t 0)), .op (some 6) (.call 60 [(.t 5)]), .chk [] (.u (.fldA 0 0 (.t 0)) (.a (.t 2))), .lt 7 [] (.u (.fldA 0 0 (.t 0)) (.a (.t 2))), .op none (.st 1 (.t 7) (.t 6))] [(0, (.a (.t 0))), (2, (.a (.t 2)))] [])
 (.seq (.rg [.lt 8 [] (.a (.t 0)), .op (some 9) (.call 60 [(.t 8)]), .chk [] (.u (.fldA 1 1 (.t 0)) (.a (.t 2))), .lt 10 [] (.u (.fldA 1 1 (.t 0)) (.a (.t 2))), .op none (.st 1 (.t 10) (.t 9))] [(0, (.a (.t 0))), (2, (.a (.t 2)))] [])
 (.seq (.seq (.rg [.lt 11 [] (.a (.t 0)), .op (some 12) (.call 62 [(.t 11), (.int .i64 1), (.str [111, 102])])] [(0, (.a (.t 0))), (2, (.a (.t 2))), (12, (.a (.t 12)))] [])
 (.cond (.t 12) (.rg [.lt 14 [] (.a (.t 0)), .op (some 15) (.call 138 [(.t 14)]), .chk [] (.u (.fldA 0 0 (.t 0)) (.u (.fldA 3 3 (.t 0)) (.a (.t 2)))), .chk [] (.u (.ext (.t 0) 1) (.a (.t 15))), .chk [] (.u (.ext (.t 0) 0) (.a (.t 15))), .lt 19 [] (.u (.fldA 0 0 (.t 0)) (.u (.fldA 3 3 (.t 0)) (.a (.t 2)))), .lt 16 [] (.u (.ext (.t 0) 0) (.a (.t 15))), .op none (.st 1 (.t 19) (.t 16)), .chk [] (.u (.fldA 1 1 (.t 0)) (.u (.fldA 3 3 (.t 0)) (.a (.t 2)))), .lt 21 [] (.u (.fldA 1 1 (.t 0)) (.u (.fldA 3 3 (.t 0)) (.a (.t 2)))), .lt 17 [] (.u (.ext (.t 0) 1) (.a (.t 15))), .op none (.st 1 (.t 21) (.t 17))] [(0, (.a (.t 0))), (2, (.a (.t 2)))] []) (.skip)))
 (lt70_s0)))))
theorem lf70 : ir70.lift [] = some lt70 := by kernel_rfl
def lt71_s0 : S2 := .rg [.lt 18 [] (.a (.t 3)), .op (some 19) (.callv (.t 18) []), .op (some 20) (.bls 11 [(.agg [(.int .i64 0), (.agg [(.str []), (.str []), (.int .i64 0), (.int .i64 0), (.int .i64 0)]), (.agg [(.str []), (.str []), (.int .i64 0), (.int .i64 0), (.int .i64 0)])])] [(0, (.t 19))]), .lt 17 [] (.a (.t 8)), .op (some 21) (.app 56 11 120 (.t 17) (.t 20))] [(0, (.a (.t 0))), (1, (.a (.t 1))), (2, (.a (.t 2))), (3, (.a (.t 3))), (8, (.a (.t 21)))] []
def lt71_l1 : S2 := .seq (.seq (.rg [.lt 9 [] (.a (.t 2)), .op (some 10) (.callv (.t 9) [])] [(0, (.a (.t 0))), (1, (.a (.t 1))), (2, (.a (.t 2))), (3, (.a (.t 3))), (8, (.a (.t 8))), (10, (.a (.t 10)))] [])
 (.cond (.t 10) (.skip) (.exit 0)))
 (.block 1 (.seq (.seq (.rg [] [(0, (.a (.t 0))), (1, (.a (.t 1))), (2, (.a (.t 2))), (3, (.a (.t 3))), (8, (.a (.t 8))), (14, (.b (.bin .eql (.t 0) (.t 1)) (.u (.lenL (.t 0)) (.a (.t 8))) (.a (.t 1))))] [])
 (.cond (.t 14) (.rg [.lt 15 [] (.a (.t 0)), .op (some 16) (.call 25 [(.t 15), (.int .i64 2)])] [(0, (.a (.t 0))), (1, (.a (.t 1))), (2, (.a (.t 2))), (3, (.a (.t 3))), (8, (.a (.t 8)))] []) (.skip)))
 (lt71_s0)))
def lt71 : S2 := .seq (.rg [.op (some 8) (.nilo 56 11 .nils)] [(0, (.a (.t 0))), (1, (.a (.t 1))), (2, (.a (.t 2))), (3, (.a (.t 3))), (8, (.a (.t 8)))] [])
 (.seq (.block 0 (.loop [0, 1, 2, 3, 8] lt71_l1))
 (.seq (.rg [.op (some 22) (.mvf (.t 8))] [(8, (.a (.t 22)))] [])
 (.ret)))
theorem lf71 : ir71.lift [] = some lt71 := by kernel_rfl
def lt72_s0 : S2 := .seq (.rg [.lt 24 [] (.a (.t 0)), .op (some 25) (.call 139 [(.t 24)]), .chk [] (.u (.fldA 2 6 (.t 0)) (.a (.t 2))), .lt 26 [] (.u (.fldA 2 6 (.t 0)) (.a (.t 2))), .op none (.st 5 (.t 26) (.t 25))] [(0, (.a (.t 0))), (2, (.a (.t 2)))] [])
 (.seq (.rg [.lt 27 [] (.a (.t 0)), .op (some 28) (.call 61 [(.t 27), (.str [59])])] [(2, (.a (.t 2)))] [])
 (.seq (.rg [.chk [] (.u (.ld 11 true (.t 0)) (.a (.t 2))), .lt 29 [] (.u (.ld 11 true (.t 0)) (.a (.t 2))), .op none (.st 11 (.t 2) (.t 29))] [(2, (.a (.t 2)))] [])
 (.ret)))
def lt72 : S2 := .seq (.rg [.op (some 2) (.alloc 56 (.agg [(.int .i64 0), (.agg [(.str []), (.str []), (.int .i64 0), (.int .i64 0), (.int .i64 0)]), (.agg [(.str []), (.str []), (.int .i64 0), (.int .i64 0), (.int .i64 0)])]))] [(0, (.a (.t 0))), (2, (.a (.t 2)))] [])
 (.seq (.rg [.lt 3 [] (.a (.t 0)), .op (some 4) (.call 59 [(.t 3), (.str [119, 104, 101, 114, 101])])] [(0, (.a (.t 0))), (2, (.a (.t 2)))] [])
 (.seq (.rg [.lt 5 [] (.a (.t 0)), .op (some 6) (.call 139 [(.t 5)]), .chk [] (.u (.fldA 1 1 (.t 0)) (.a (.t 2))), .lt 7 [] (.u (.fldA 1 1 (.t 0)) (.a (.t 2))), .op none (.st 5 (.t 7) (.t 6))] [(0, (.a (.t 0))), (2, (.a (.t 2)))] [])
 (.seq (.block 0 (.seq (.rg [.lt 14 [] (.a (.t 0)), .op (some 15) (.call 62 [(.t 14), (.int .i64 3), (.str [61])])] [(0, (.a (.t 0))), (2, (.a (.t 2))), (13, (.a (.t 15)))] [])
 (.cond (.t 13) (.rg [.chk [] (.u (.fldA 0 0 (.t 0)) (.a (.t 2))), .lt 16 [] (.u (.fldA 0 0 (.t 0)) (.a (.t 2))), .op none (.st 1 (.t 16) (.int .i64 1))] [(0, (.a (.t 0))), (2, (.a (.t 2)))] []) (.seq (.rg [.lt 18 [] (.a (.t 0)), .op (some 19) (.call 62 [(.t 18), (.int .i64 3), (.str [60])])] [(0, (.a (.t 0))), (2, (.a (.t 2))), (17, (.a (.t 19)))] [])
 (.cond (.t 17) (.seq (.rg [.chk [] (.u (.fldA 0 0 (.t 0)) (.a (.t 2))), .lt 20 [] (.u (.fldA 0 0 (.t 0)) (.a (.t 2))), .op none (.st 1 (.t 20) (.int .i64 2))] [(0, (.a (.t 0))), (2, (.a (.t 2)))] [])
 (.seq (.rg [.lt 21 [] (.a (.t 0)), .op (some 22) (.call 62 [(.t 21), (.int .i64 3), (.str [61])])] [(0, (.a (.t 0))), (2, (.a (.t 2))), (22, (.a (.t 22)))] [])
 (.cond (.t 22) (.rg [.chk [] (.u (.fldA 0 0 (.t 0)) (.a (.t 2))), .lt 23 [] (.u (.fldA 0 0 (.t 0)) (.a (.t 2))), .op none (.st 1 (.t 23) (.int .i64 3))] [(0, (.a (.t 0))), (2, (.a (.t 2)))] []) (.skip)))) (.seq (.rg [.lt 8 [] (.a (.t 0)), .op (some 9) (.call 61 [(.t 8), (.str [33])])] [(0, (.a (.t 0))), (2, (.a (.t 2)))] [])
 (.seq (.rg [.lt 10 [] (.a (.t 0)), .op (some 11) (.call 61 [(.t 10), (.str [61])])] [(0, (.a (.t 0))), (2, (.a (.t 2)))] [])
 (.rg [.chk [] (.u (.fldA 0 0 (.t 0)) (.a (.t 2))), .lt 12 [] (.u (.fldA 0 0 (.t 0)) (.a (.t 2))), .op none (.st 1 (.t 12) (.int .i64 4))] [(0, (.a (.t 0))), (2, (.a (.t 2)))] []))))))))
 (lt72_s0))))
theorem lf72 : ir72.lift [] = some lt72 := by kernel_rfl
def lt73_s0 : S2 := .rg [.lt 18 [] (.a (.t 3)), .op (some 19) (.callv (.t 18) []), .op (some 20) (.bls 7 [(.agg [(.str []), (.int .i64 0), (.agg [(.str []), (.str []), (.int .i64 0), (.int .i64 0), (.int .i64 0)])])] [(0, (.t 19))]), .lt 17 [] (.a (.t 8)), .op (some 21) (.app 58 7 80 (.t 17) (.t 20))] [(0, (.a (.t 0))), (1, (.a (.t 1))), (2, (.a (.t 2))), (3, (.a (.t 3))), (8, (.a (.t 21)))] []
def lt73_l1 : S2 := .seq (.seq (.rg [.lt 9 [] (.a (.t 2)), .op (some 10) (.callv (.t 9) [])] [(0, (.a (.t 0))), (1, (.a (.t 1))), (2, (.a (.t 2))), (3, (.a (.t 3))), (8, (.a (.t 8))), (10, (.a (.t 10)))] [])
 (.cond (.t 10) (.skip) (.exit 0)))
 (.block 1 (.seq (.seq (.rg [] [(0, (.a (.t 0))), (1, (.a (.t 1))), (2, (.a (.t 2))), (3, (.a (.t 3))), (8, (.a (.t 8))), (14, (.b (.bin .eql (.t 0) (.t 1)) (.u (.lenL (.t 0)) (.a (.t 8))) (.a (.t 1))))] [])
 (.cond (.t 14) (.rg [.lt 15 [] (.a (.t 0)), .op (some 16) (.call 25 [(.t 15), (.int .i64 2)])] [(0, (.a (.t 0))), (1, (.a (.t 1))), (2, (.a (.t 2))), (3, (.a (.t 3))), (8, (.a (.t 8)))] []) (.skip)))
 (lt73_s0)))
def lt73 : S2 := .seq (.rg [.op (some 8) (.nilo 58 7 .nils)] [(0, (.a (.t 0))), (1, (.a (.t 1))), (2, (.a (.t 2))), (3, (.a (.t 3))), (8, (.a (.t 8)))] [])
 (.seq (.block 0 (.loop [0, 1, 2, 3, 8] lt73_l1))
 (.seq (.rg [.op (some 22) (.mvf (.t 8))] [(8, (.a (.t 22)))] [])
 (.ret)))
theorem lf73 : ir73.lift [] = some lt73 := by kernel_rfl
def lt74 : S2 := .seq (.rg [.op (some 2) (.alloc 58 (.agg [(.str []), (.int .i64 0), (.agg [(.str []), (.str []), (.int .i64 0), (.int .i64 0), (.int .i64 0)])]))] [(0, (.a (.t 0))), (2, (.a (.t 2)))] [])
 (.seq (.rg [.lt 3 [] (.a (.t 0)), .op (some 4) (.call 59 [(.t 3), (.str [115, 101, 116])])] [(0, (.a (.t 0))), (2, (.a (.t 2)))] [])
 (.seq (.rg [.lt 5 [] (.a (.t 0)), .op (some 6) (.call 60 [(.t 5)]), .chk [] (.u (.fldA 0 0 (.t 0)) (.a (.t 2))), .lt 7 [] (.u (.fldA 0 0 (.t 0)) (.a (.t 2))), .op none (.st 1 (.t 7) (.t 6))] [(0, (.a (.t 0))), (2, (.a (.t 2)))] [])
 (.seq (.rg [.lt 8 [] (.a (.t 0)), .op (some 9) (.call 61 [(.t 8), (.str [61])])] [(0, (.a (.t 0))), (2, (.a (.t 2)))] [])
 (.seq (.rg [.lt 10 [] (.a (.t 0)), .op (some 11) (.call 139 [(.t 10)]), .chk [] (.u (.fldA 2 2 (.t 0)) (.a (.t 2))), .lt 12 [] (.u (.fldA 2 2 (.t 0)) (.a (.t 2))), .op none (.st 5 (.t 12) (.t 11))] [(0, (.a (.t 0))), (2, (.a (.t 2)))] [])
 (.seq (.rg [.lt 13 [] (.a (.t 0)), .op (some 14) (.call 61 [(.t 13), (.str [59])])] [(2, (.a (.t 2)))] [])
 (.seq (.rg [.chk [] (.u (.ld 7 true (.t 0)) (.a (.t 2))), .lt 15 [] (.u (.ld 7 true (.t 0)) (.a (.t 2))), .op none (.st 7 (.t 2) (.t 15))] [(2, (.a (.t 2)))] [])
 (.ret)))))))
theorem lf74 : ir74.lift [] = some lt74 := by kernel_rfl
def lt75_s0 : S2 := .rg [.lt 18 [] (.a (.t 3)), .op (some 19) (.callv (.t 18) []), .op (some 20) (.bls 5 [(.agg [(.str []), (.str []), (.int .i64 0), (.int .i64 0), (.int .i64 0)])] [(0, (.t 19))]), .lt 17 [] (.a (.t 8)), .op (some 21) (.app 112 5 56 (.t 17) (.t 20))] [(0, (.a (.t 0))), (1, (.a (.t 1))), (2, (.a (.t 2))), (3, (.a (.t 3))), (8, (.a (.t 21)))] []
def lt75_l1 : S2 := .seq (.seq (.rg [.lt 9 [] (.a (.t 2)), .op (some 10) (.callv (.t 9) [])] [(0, (.a (.t 0))), (1, (.a (.t 1))), (2, (.a (.t 2))), (3, (.a (.t 3))), (8, (.a (.t 8))), (10, (.a (.t 10)))] [])
 (.cond (.t 10) (.skip) (.exit 0)))
 (.block 1 (.seq (.seq (.rg [] [(0, (.a (.t 0))), (1, (.a (.t 1))), (2, (.a (.t 2))), (3, (.a (.t 3))), (8, (.a (.t 8))), (14, (.b (.bin .eql (.t 0) (.t 1)) (.u (.lenL (.t 0)) (.a (.t 8))) (.a (.t 1))))] [])
 (.cond (.t 14) (.rg [.lt 15 [] (.a (.t 0)), .op (some 16) (.call 25 [(.t 15), (.int .i64 2)])] [(0, (.a (.t 0))), (1, (.a (.t 1))), (2, (.a (.t 2))), (3, (.a (.t 3))), (8, (.a (.t 8)))] []) (.skip)))
 (lt75_s0)))
def lt75 : S2 := .seq (.rg [.op (some 8) (.nilo 112 5 .nils)] [(0, (.a (.t 0))), (1, (.a (.t 1))), (2, (.a (.t 2))), (3, (.a (.t 3))), (8, (.a (.t 8)))] [])
 (.seq (.block 0 (.loop [0, 1, 2, 3, 8] lt75_l1))
 (.seq (.rg [.op (some 22) (.mvf (.t 8))] [(8, (.a (.t 22)))] [])
 (.ret)))
theorem lf75 : ir75.lift [] = some lt75 := by kernel_rfl
def lt76_s0 : S2 := .seq (.rg [.lt 24 [] (.a (.t 0)), .op (some 25) (.call 61 [(.t 24), (.str [59])])] [(2, (.a (.t 2)))] [])
 (.seq (.rg [.chk [] (.u (.ld 5 true (.t 0)) (.a (.t 2))), .lt 26 [] (.u (.ld 5 true (.t 0)) (.a (.t 2))), .op none (.st 5 (.t 2) (.t 26))] [(2, (.a (.t 2)))] [])
 (.ret))
def lt76 : S2 := .seq (.rg [.op (some 2) (.alloc 112 (.agg [(.str []), (.str []), (.int .i64 0), (.int .i64 0), (.int .i64 0)]))] [(0, (.a (.t 0))), (2, (.a (.t 2)))] [])
 (.seq (.rg [.lt 3 [] (.a (.t 0)), .op (some 4) (.call 60 [(.t 3)]), .chk [] (.u (.fldA 0 0 (.t 0)) (.a (.t 2))), .lt 5 [] (.u (.fldA 0 0 (.t 0)) (.a (.t 2))), .op none (.st 1 (.t 5) (.t 4))] [(0, (.a (.t 0))), (2, (.a (.t 2)))] [])
 (.seq (.rg [.lt 6 [] (.a (.t 0)), .op (some 7) (.call 61 [(.t 6), (.str [61])])] [(0, (.a (.t 0))), (2, (.a (.t 2)))] [])
 (.seq (.rg [.lt 8 [] (.a (.t 0)), .op (some 9) (.call 60 [(.t 8)]), .chk [] (.u (.fldA 1 1 (.t 0)) (.a (.t 2))), .lt 10 [] (.u (.fldA 1 1 (.t 0)) (.a (.t 2))), .op none (.st 1 (.t 10) (.t 9))] [(0, (.a (.t 0))), (2, (.a (.t 2)))] [])
 (.seq (.seq (.rg [.lt 11 [] (.a (.t 0)), .op (some 12) (.call 62 [(.t 11), (.int .i64 3), (.str [43])])] [(0, (.a (.t 0))), (2, (.a (.t 2))), (12, (.a (.t 12)))] [])
 (.cond (.t 12) (.rg [.op (some 14) (.gld 4 2 true (.agg [(.int .i64 0), (.int .i64 1048576)])), .lt 13 [] (.a (.t 0)), .op (some 15) (.call 63 [(.t 13), (.t 14)]), .chk [] (.u (.fldA 4 4 (.t 0)) (.a (.t 2))), .lt 16 [] (.u (.fldA 4 4 (.t 0)) (.a (.t 2))), .op none (.st 1 (.t 16) (.t 15))] [(0, (.a (.t 0))), (2, (.a (.t 2)))] []) (.seq (.rg [.lt 17 [] (.a (.t 0)), .op (some 18) (.call 62 [(.t 17), (.int .i64 3), (.str [45])])] [(0, (.a (.t 0))), (2, (.a (.t 2))), (18, (.a (.t 18)))] [])
 (.cond (.t 18) (.rg [.op (some 20) (.gld 4 2 true (.agg [(.int .i64 0), (.int .i64 1048576)])), .lt 19 [] (.a (.t 0)), .op (some 21) (.call 63 [(.t 19), (.t 20)]), .chk [] (.u (.fldA 4 4 (.t 0)) (.a (.t 2))), .chk [] (.u (.neg (.t 0)) (.a (.t 21))), .lt 23 [] (.u (.fldA 4 4 (.t 0)) (.a (.t 2))), .lt 22 [] (.u (.neg (.t 0)) (.a (.t 21))), .op none (.st 1 (.t 23) (.t 22))] [(0, (.a (.t 0))), (2, (.a (.t 2)))] []) (.skip)))))
 (lt76_s0)))))
theorem lf76 : ir76.lift [] = some lt76 := by kernel_rfl
def lt77_s0 : S2 := .rg [.lt 18 [] (.a (.t 3)), .op (some 19) (.callv (.t 18) []), .op (some 20) (.bls 4 [(.agg [(.str []), (.str []), (.int .i64 0), (.int .i64 0)])] [(0, (.t 19))]), .lt 17 [] (.a (.t 8)), .op (some 21) (.app 107 4 48 (.t 17) (.t 20))] [(0, (.a (.t 0))), (1, (.a (.t 1))), (2, (.a (.t 2))), (3, (.a (.t 3))), (8, (.a (.t 21)))] []
def lt77_l1 : S2 := .seq (.seq (.rg [.lt 9 [] (.a (.t 2)), .op (some 10) (.callv (.t 9) [])] [(0, (.a (.t 0))), (1, (.a (.t 1))), (2, (.a (.t 2))), (3, (.a (.t 3))), (8, (.a (.t 8))), (10, (.a (.t 10)))] [])
 (.cond (.t 10) (.skip) (.exit 0)))
 (.block 1 (.seq (.seq (.rg [] [(0, (.a (.t 0))), (1, (.a (.t 1))), (2, (.a (.t 2))), (3, (.a (.t 3))), (8, (.a (.t 8))), (14, (.b (.bin .eql (.t 0) (.t 1)) (.u (.lenL (.t 0)) (.a (.t 8))) (.a (.t 1))))] [])
 (.cond (.t 14) (.rg [.lt 15 [] (.a (.t 0)), .op (some 16) (.call 25 [(.t 15), (.int .i64 2)])] [(0, (.a (.t 0))), (1, (.a (.t 1))), (2, (.a (.t 2))), (3, (.a (.t 3))), (8, (.a (.t 8)))] []) (.skip)))
 (lt77_s0)))
def lt77 : S2 := .seq (.rg [.op (some 8) (.nilo 107 4 .nils)] [(0, (.a (.t 0))), (1, (.a (.t 1))), (2, (.a (.t 2))), (3, (.a (.t 3))), (8, (.a (.t 8)))] [])
 (.seq (.block 0 (.loop [0, 1, 2, 3, 8] lt77_l1))
 (.seq (.rg [.op (some 22) (.mvf (.t 8))] [(8, (.a (.t 22)))] [])
 (.ret)))
theorem lf77 : ir77.lift [] = some lt77 := by kernel_rfl
def lt78 : S2 := .seq (.rg [.op (some 2) (.alloc 107 (.agg [(.str []), (.str []), (.int .i64 0), (.int .i64 0)]))] [(0, (.a (.t 0))), (2, (.a (.t 2)))] [])
 (.seq (.rg [.lt 3 [] (.a (.t 0)), .op (some 4) (.call 59 [(.t 3), (.str [109, 97, 121])])] [(0, (.a (.t 0))), (2, (.a (.t 2)))] [])
 (.seq (.rg [.lt 6 [] (.a (.t 0)), .op (some 7) (.call 138 [(.t 6)]), .chk [] (.u (.fldA 0 0 (.t 0)) (.a (.t 2))), .chk [] (.u (.ext (.t 0) 1) (.a (.t 7))), .chk [] (.u (.ext (.t 0) 0) (.a (.t 7))), .lt 10 [] (.u (.fldA 0 0 (.t 0)) (.a (.t 2))), .lt 8 [] (.u (.ext (.t 0) 0) (.a (.t 7))), .op none (.st 1 (.t 10) (.t 8)), .chk [] (.u (.fldA 1 1 (.t 0)) (.a (.t 2))), .lt 11 [] (.u (.fldA 1 1 (.t 0)) (.a (.t 2))), .lt 9 [] (.u (.ext (.t 0) 1) (.a (.t 7))), .op none (.st 1 (.t 11) (.t 9))] [(0, (.a (.t 0))), (2, (.a (.t 2)))] [])
 (.seq (.rg [.lt 12 [] (.a (.t 0)), .op (some 13) (.call 61 [(.t 12), (.str [59])])] [(2, (.a (.t 2)))] [])
 (.seq (.rg [.chk [] (.u (.ld 4 true (.t 0)) (.a (.t 2))), .lt 14 [] (.u (.ld 4 true (.t 0)) (.a (.t 2))), .op none (.st 4 (.t 2) (.t 14))] [(2, (.a (.t 2)))] [])
 (.ret)))))
theorem lf78 : ir78.lift [] = some lt78 := by kernel_rfl
def lt133_s0 : S2 := .seq (.rg [.chk [] (.u (.ld 4 true (.t 0)) (.b (.idxA 4 (.t 0) (.t 1)) (.u (.ld 1 false (.t 0)) (.u (.fldA 0 0 (.t 0)) (.u (.nilc (.t 0)) (.a (.t 0))))) (.a (.int .i64 0)))), .lt 20 [] (.u (.ld 4 true (.t 0)) (.b (.idxA 4 (.t 0) (.t 1)) (.u (.ld 1 false (.t 0)) (.u (.fldA 0 0 (.t 0)) (.u (.nilc (.t 0)) (.a (.t 0))))) (.a (.int .i64 0)))), .op (some 7) (.alloc 44 (.agg [(.int .i64 0), (.str []), (.int .i64 0), (.int .i64 0)])), .op none (.st 4 (.t 7) (.t 20))] [(0, (.a (.t 0))), (6, (.a (.t 6))), (7, (.a (.t 7)))] [])
 (.seq (.rg [.chk [] (.u (.fldA 0 0 (.t 0)) (.u (.nilc (.t 0)) (.a (.t 0)))), .chk [] (.b (.slcL 4 (.t 0) (some (.t 1)) none) (.u (.ld 1 false (.t 0)) (.u (.fldA 0 0 (.t 0)) (.u (.nilc (.t 0)) (.a (.t 0))))) (.a (.int .i64 1))), .lt 28 [] (.u (.fldA 0 0 (.t 0)) (.u (.nilc (.t 0)) (.a (.t 0)))), .lt 26 [] (.b (.slcL 4 (.t 0) (some (.t 1)) none) (.u (.ld 1 false (.t 0)) (.u (.fldA 0 0 (.t 0)) (.u (.nilc (.t 0)) (.a (.t 0))))) (.a (.int .i64 1))), .op none (.st 1 (.t 28) (.t 26))] [(6, (.a (.t 6))), (7, (.a (.t 7)))] [])
 (.seq (.rg [.chk [] (.u (.ld 4 true (.t 0)) (.a (.t 7))), .lt 29 [] (.u (.ld 4 true (.t 0)) (.a (.t 7))), .op none (.st 4 (.t 6) (.t 29))] [(6, (.a (.t 6)))] [])
 (.ret)))
def lt133 : S2 := .seq (.rg [.op (some 6) (.alloc 44 (.agg [(.int .i64 0), (.str []), (.int .i64 0), (.int .i64 0)]))] [(0, (.a (.t 0))), (1, (.a (.t 1))), (2, (.a (.t 2))), (6, (.a (.t 6)))] [])
 (.seq (.seq (.rg [.lt 10 [] (.a (.t 2)), .lt 9 [] (.a (.t 1)), .lt 8 [] (.a (.t 0)), .op (some 11) (.call 65 [(.t 8), (.t 9), (.t 10)])] [(0, (.a (.t 0))), (6, (.a (.t 6))), (12, (.u (.not (.t 0)) (.a (.t 11))))] [])
 (.cond (.t 12) (.rg [.lt 13 [] (.a (.t 0)), .op (some 14) (.call 25 [(.t 13), (.int .i64 100)])] [(0, (.a (.t 0))), (6, (.a (.t 6)))] []) (.skip)))
 (lt133_s0))
theorem lf133 : ir133.lift [] = some lt133 := by kernel_rfl
def lt134 : S2 := .seq (.rg [.op (some 2) (.box 132 (.t 0))] [(1, (.a (.t 1))), (2, (.a (.t 2)))] [])
 (.seq (.rg [] [(4, (.ite (.b (.bin .leq (.t 0) (.t 1)) (.u (.ld 1 false (.t 0)) (.u (.fldA 0 0 (.t 0)) (.a (.t 2)))) (.a (.t 1))) (.b (.bin .leq (.t 0) (.t 1)) (.a (.t 1)) (.u (.ld 1 false (.t 0)) (.u (.fldA 1 1 (.t 0)) (.a (.t 2))))) (.a (.bool false))))] [])
 (.ret))
theorem lf134 : ir134.lift [] = some lt134 := by kernel_rfl
def lt135_s0 : S2 := .seq (.rg [.chk [] (.u (.ld 6 true (.t 0)) (.a (.t 2))), .lt 46 [] (.u (.ld 6 true (.t 0)) (.a (.t 2))), .op none (.st 6 (.t 2) (.t 46))] [(2, (.a (.t 2)))] [])
 (.ret)
def lt135 : S2 := .seq (.rg [.op (some 2) (.alloc 90 (.agg [(.int .i64 0), (.int .i64 0), (.int .i64 0), (.str []), (.int .i64 0), .nils]))] [(0, (.a (.t 0))), (2, (.a (.t 2)))] [])
 (.seq (.block 0 (.seq (.rg [.lt 6 [] (.a (.t 0)), .op (some 7) (.call 62 [(.t 6), (.int .i64 1), (.str [110, 117, 109, 98, 101, 114])])] [(0, (.a (.t 0))), (2, (.a (.t 2))), (5, (.a (.t 7)))] [])
 (.cond (.t 5) (.seq (.rg [.chk [] (.u (.fldA 0 0 (.t 0)) (.a (.t 2))), .lt 8 [] (.u (.fldA 0 0 (.t 0)) (.a (.t 2))), .op none (.st 1 (.t 8) (.int .i64 1))] [(0, (.a (.t 0))), (2, (.a (.t 2)))] [])
 (.seq (.rg [.op (some 10) (.gld 4 2 true (.agg [(.int .i64 0), (.int .i64 1048576)])), .lt 9 [] (.a (.t 0)), .op (some 11) (.call 63 [(.t 9), (.t 10)]), .chk [] (.u (.fldA 1 1 (.t 0)) (.a (.t 2))), .lt 12 [] (.u (.fldA 1 1 (.t 0)) (.a (.t 2))), .op none (.st 1 (.t 12) (.t 11))] [(0, (.a (.t 0))), (2, (.a (.t 2)))] [])
 (.seq (.rg [.lt 13 [] (.a (.t 0)), .op (some 14) (.call 59 [(.t 13), (.str [116, 111])])] [(0, (.a (.t 0))), (2, (.a (.t 2)))] [])
 (.seq (.rg [.op (some 16) (.gld 4 2 true (.agg [(.int .i64 0), (.int .i64 1048576)])), .lt 15 [] (.a (.t 0)), .op (some 17) (.call 63 [(.t 15), (.t 16)]), .chk [] (.u (.fldA 2 2 (.t 0)) (.a (.t 2))), .lt 18 [] (.u (.fldA 2 2 (.t 0)) (.a (.t 2))), .op none (.st 1 (.t 18) (.t 17))] [(0, (.a (.t 0))), (2, (.a (.t 2)))] [])
 (.seq (.rg [.lt 19 [] (.a (.t 0)), .op (some 20) (.call 62 [(.t 19), (.int .i64 1), (.str [105, 110])])] [(0, (.a (.t 0))), (2, (.a (.t 2))), (20, (.a (.t 20)))] [])
 (.cond (.t 20) (.rg [.lt 21 [] (.a (.t 0)), .op (some 22) (.call 60 [(.t 21)]), .chk [] (.u (.fldA 3 3 (.t 0)) (.a (.t 2))), .lt 23 [] (.u (.fldA 3 3 (.t 0)) (.a (.t 2))), .op none (.st 1 (.t 23) (.t 22))] [(2, (.a (.t 2)))] []) (.skip))))))) (.seq (.rg [.lt 25 [] (.a (.t 0)), .op (some 26) (.call 62 [(.t 25), (.int .i64 1), (.str [100, 97, 116, 101])])] [(0, (.a (.t 0))), (2, (.a (.t 2))), (24, (.a (.t 26)))] [])
 (.cond (.t 24) (.rg [.chk [] (.u (.fldA 0 0 (.t 0)) (.a (.t 2))), .lt 27 [] (.u (.fldA 0 0 (.t 0)) (.a (.t 2))), .op none (.st 1 (.t 27) (.int .i64 2)), .chk [] (.u (.fldA 2 2 (.t 0)) (.a (.t 2))), .lt 28 [] (.u (.fldA 2 2 (.t 0)) (.a (.t 2))), .op none (.st 1 (.t 28) (.int .i64 1023))] [(2, (.a (.t 2)))] []) (.seq (.rg [.lt 30 [] (.a (.t 0)), .op (some 31) (.call 62 [(.t 30), (.int .i64 1), (.str [112, 101, 114, 115, 111, 110])])] [(0, (.a (.t 0))), (2, (.a (.t 2))), (29, (.a (.t 31)))] [])
 (.cond (.t 29) (.rg [.chk [] (.u (.fldA 0 0 (.t 0)) (.a (.t 2))), .lt 32 [] (.u (.fldA 0 0 (.t 0)) (.a (.t 2))), .op none (.st 1 (.t 32) (.int .i64 3)), .chk [] (.u (.fldA 2 2 (.t 0)) (.a (.t 2))), .lt 33 [] (.u (.fldA 2 2 (.t 0)) (.a (.t 2))), .op none (.st 1 (.t 33) (.int .i64 4095))] [(2, (.a (.t 2)))] []) (.seq (.rg [.lt 35 [] (.a (.t 0)), .op (some 36) (.call 62 [(.t 35), (.int .i64 1), (.str [99, 104, 111, 105, 99, 101])])] [(0, (.a (.t 0))), (2, (.a (.t 2))), (34, (.a (.t 36)))] [])
 (.cond (.t 34) (.seq (.rg [.chk [] (.u (.fldA 0 0 (.t 0)) (.a (.t 2))), .lt 37 [] (.u (.fldA 0 0 (.t 0)) (.a (.t 2))), .op none (.st 1 (.t 37) (.int .i64 4))] [(0, (.a (.t 0))), (2, (.a (.t 2)))] [])
 (.seq (.rg [.lt 38 [] (.a (.t 0)), .op (some 39) (.call 136 [(.t 38), (.int .i64 16)]), .chk [] (.u (.fldA 5 5 (.t 0)) (.a (.t 2))), .lt 40 [] (.u (.fldA 5 5 (.t 0)) (.a (.t 2))), .op none (.st 1 (.t 40) (.t 39))] [(2, (.a (.t 2)))] [])
 (.rg [.chk [] (.u (.fldA 2 2 (.t 0)) (.a (.t 2))), .chk [] (.b (.bin .sub (.t 0) (.t 1)) (.u (.lenL (.t 0)) (.u (.ld 1 false (.t 0)) (.u (.fldA 5 5 (.t 0)) (.a (.t 2))))) (.a (.int .i64 1))), .lt 45 [] (.u (.fldA 2 2 (.t 0)) (.a (.t 2))), .lt 44 [] (.b (.bin .sub (.t 0) (.t 1)) (.u (.lenL (.t 0)) (.u (.ld 1 false (.t 0)) (.u (.fldA 5 5 (.t 0)) (.a (.t 2))))) (.a (.int .i64 1))), .op none (.st 1 (.t 45) (.t 44))] [(2, (.a (.t 2)))] []))) (.rg [.lt 3 [] (.a (.t 0)), .op (some 4) (.call 25 [(.t 3), (.int .i64 100)])] [(2, (.a (.t 2)))] []))))))))))
 (lt135_s0))
theorem lf135 : ir135.lift [] = some lt135 := by kernel_rfl
def lt136 : S2 := .seq (.rg [.op (some 2) (.box 63 (.t 0)), .op (some 4) (.mvf .nils)] [(1, (.a (.t 1))), (2, (.a (.t 2)))] [])
 (.seq (.rg [.chk [] (.u (.ld 1 false (.t 0)) (.a (.t 2))), .lt 7 [] (.u (.ld 1 false (.t 0)) (.a (.t 2))), .op (some 8) (.call 60 [(.t 7)])] [(1, (.a (.t 1))), (2, (.a (.t 2))), (5, (.a (.t 8)))] [])
 (.seq (.rg [.op (some 9) (.c (.mkf 175 [] [(.t 2)]))] [(1, (.a (.t 1))), (2, (.a (.t 2))), (5, (.a (.t 5))), (6, (.a (.t 9)))] [])
 (.seq (.rg [.lt 10 [] (.a (.t 5)), .op (some 11) (.blo 9 1 [(.str [])] [(0, (.t 10))]), .chk [] (.b (.bin .sub (.t 0) (.t 1)) (.a (.t 1)) (.a (.int .i64 1))), .chk [] (.u (.ld 1 false (.t 0)) (.a (.t 2))), .lt 12 [] (.u (.ld 1 false (.t 0)) (.a (.t 2))), .op (some 16) (.c (.mkf 177 [] [(.t 2)])), .lt 15 [] (.a (.t 6)), .lt 14 [] (.b (.bin .sub (.t 0) (.t 1)) (.a (.t 1)) (.a (.int .i64 1))), .op (some 17) (.call 176 [(.t 12), (.t 14), (.t 15), (.t 16)]), .op (some 18) (.app 9 1 16 (.t 11) (.t 17)), .op (some 4) (.mvf (.t 18))] [(4, (.a (.t 4)))] [])
 (.ret))))
theorem lf136 : ir136.lift [] = some lt136 := by kernel_rfl
def lt137 : S2 := .seq (.rg [] [(0, (.a (.t 0))), (1, (.a (.t 1)))] [])
 (.seq (.rg [.chk [] (.u (.ld 1 false (.t 0)) (.a (.t 1))), .chk [] (.u (.ld 1 false (.t 0)) (.a (.t 0))), .lt 4 [] (.u (.ld 1 false (.t 0)) (.a (.t 1))), .lt 3 [] (.u (.ld 1 false (.t 0)) (.a (.t 0))), .op (some 5) (.call 65 [(.t 3), (.int .i64 1), (.t 4)])] [(2, (.a (.t 5)))] [])
 (.ret))
theorem lf137 : ir137.lift [] = some lt137 := by kernel_rfl
def lt138 : S2 := .seq (.rg [] [(0, (.a (.t 0)))] [])
 (.seq (.rg [.lt 4 [] (.a (.t 0)), .op (some 5) (.call 60 [(.t 4)])] [(0, (.a (.t 0))), (2, (.a (.t 5)))] [])
 (.seq (.rg [.lt 6 [] (.a (.t 0)), .op (some 7) (.call 61 [(.t 6), (.str [46])])] [(0, (.a (.t 0))), (2, (.a (.t 2)))] [])
 (.seq (.rg [.lt 9 [] (.a (.t 0)), .op (some 10) (.call 60 [(.t 9)])] [(2, (.a (.t 2))), (3, (.a (.t 10)))] [])
 (.ret))))
theorem lf138 : ir138.lift [] = some lt138 := by kernel_rfl
def lt139 : S2 := .seq (.rg [.op (some 2) (.alloc 52 (.agg [(.str []), (.str []), (.int .i64 0), (.int .i64 0), (.int .i64 0)]))] [(0, (.a (.t 0))), (2, (.a (.t 2)))] [])
 (.seq (.seq (.rg [.lt 3 [] (.a (.t 0)), .op (some 4) (.call 65 [(.t 3), (.int .i64 2), (.str [])])] [(0, (.a (.t 0))), (2, (.a (.t 2))), (4, (.a (.t 4)))] [])
 (.cond (.t 4) (.seq (.rg [.op (some 6) (.gld 4 2 true (.agg [(.int .i64 0), (.int .i64 1048576)])), .lt 5 [] (.a (.t 0)), .op (some 7) (.call 63 [(.t 5), (.t 6)]), .op (some 8) (.c (.bld [(.str []), (.str []), (.int .i64 0), (.int .i64 0), (.int .i64 0)] [(4, (.t 7)), (2, (.int .i64 (-1)))])), .op none (.st 5 (.t 2) (.t 8))] [(2, (.a (.t 2)))] [])
 (.ret)) (.skip)))
 (.seq (.rg [.lt 10 [] (.a (.t 0)), .op (some 11) (.call 138 [(.t 10)]), .chk [] (.u (.fldA 0 0 (.t 0)) (.a (.t 2))), .chk [] (.u (.ext (.t 0) 1) (.a (.t 11))), .chk [] (.u (.ext (.t 0) 0) (.a (.t 11))), .lt 14 [] (.u (.fldA 0 0 (.t 0)) (.a (.t 2))), .lt 12 [] (.u (.ext (.t 0) 0) (.a (.t 11))), .op none (.st 1 (.t 14) (.t 12)), .chk [] (.u (.fldA 1 1 (.t 0)) (.a (.t 2))), .lt 15 [] (.u (.fldA 1 1 (.t 0)) (.a (.t 2))), .lt 13 [] (.u (.ext (.t 0) 1) (.a (.t 11))), .op none (.st 1 (.t 15) (.t 13))] [(2, (.a (.t 2)))] [])
 (.seq (.rg [.chk [] (.u (.ld 5 true (.t 0)) (.a (.t 2))), .lt 16 [] (.u (.ld 5 true (.t 0)) (.a (.t 2))), .op none (.st 5 (.t 2) (.t 16))] [(2, (.a (.t 2)))] [])
 (.ret))))
theorem lf139 : ir139.lift [] = some lt139 := by kernel_rfl
def lt175 : S2 := .seq (.rg [] [(0, (.a (.t 0)))] [])
 (.seq (.rg [.chk [] (.u (.ld 1 false (.t 0)) (.a (.t 0))), .lt 2 [] (.u (.ld 1 false (.t 0)) (.a (.t 0))), .op (some 3) (.call 65 [(.t 2), (.int .i64 3), (.str [44])])] [(1, (.a (.t 3)))] [])
 (.ret))
theorem lf175 : ir175.lift [] = some lt175 := by kernel_rfl
def lt176_s0 : S2 := .rg [.lt 18 [] (.a (.t 3)), .op (some 19) (.callv (.t 18) []), .op (some 20) (.bls 1 [(.str [])] [(0, (.t 19))]), .lt 17 [] (.a (.t 8)), .op (some 21) (.app 9 1 16 (.t 17) (.t 20))] [(0, (.a (.t 0))), (1, (.a (.t 1))), (2, (.a (.t 2))), (3, (.a (.t 3))), (8, (.a (.t 21)))] []
def lt176_l1 : S2 := .seq (.seq (.rg [.lt 9 [] (.a (.t 2)), .op (some 10) (.callv (.t 9) [])] [(0, (.a (.t 0))), (1, (.a (.t 1))), (2, (.a (.t 2))), (3, (.a (.t 3))), (8, (.a (.t 8))), (10, (.a (.t 10)))] [])
 (.cond (.t 10) (.skip) (.exit 0)))
 (.block 1 (.seq (.seq (.rg [] [(0, (.a (.t 0))), (1, (.a (.t 1))), (2, (.a (.t 2))), (3, (.a (.t 3))), (8, (.a (.t 8))), (14, (.b (.bin .eql (.t 0) (.t 1)) (.u (.lenL (.t 0)) (.a (.t 8))) (.a (.t 1))))] [])
 (.cond (.t 14) (.rg [.lt 15 [] (.a (.t 0)), .op (some 16) (.call 25 [(.t 15), (.int .i64 2)])] [(0, (.a (.t 0))), (1, (.a (.t 1))), (2, (.a (.t 2))), (3, (.a (.t 3))), (8, (.a (.t 8)))] []) (.skip)))
 (lt176_s0)))
def lt176 : S2 := .seq (.rg [.op (some 8) (.nilo 9 1 .nils)] [(0, (.a (.t 0))), (1, (.a (.t 1))), (2, (.a (.t 2))), (3, (.a (.t 3))), (8, (.a (.t 8)))] [])
 (.seq (.block 0 (.loop [0, 1, 2, 3, 8] lt176_l1))
 (.seq (.rg [.op (some 22) (.mvf (.t 8))] [(8, (.a (.t 22)))] [])
 (.ret)))
theorem lf176 : ir176.lift [] = some lt176 := by kernel_rfl
def lt177 : S2 := .seq (.rg [] [(0, (.a (.t 0)))] [])
 (.seq (.rg [.chk [] (.u (.ld 1 false (.t 0)) (.a (.t 0))), .lt 2 [] (.u (.ld 1 false (.t 0)) (.a (.t 0))), .op (some 3) (.call 61 [(.t 2), (.str [44])])] [(0, (.a (.t 0)))] [])
 (.seq (.rg [.chk [] (.u (.ld 1 false (.t 0)) (.a (.t 0))), .lt 4 [] (.u (.ld 1 false (.t 0)) (.a (.t 0))), .op (some 5) (.call 60 [(.t 4)])] [(1, (.a (.t 5)))] [])
 (.ret)))
theorem lf177 : ir177.lift [] = some lt177 := by kernel_rfl
end Go.Proofs.YtanpgmgkmfckaaaGreatDoor
/- The abstract statements that stand for the code of these functions, written by a program from the translation; that they do is checked by the kernel. No condition. -/
namespace Go.Proofs.YtanpgmgkmfckaaaGreatDoor
open Go Go.Ab
set_option maxRecDepth 100000
def ir15_l0 : S := .seq (.seq (.rg [] [.op (some 26) (.c (.mv (.t 5))),
   .op (some 27) (.c (.nilc (.t 26))),
   .op (some 28) (.c (.fldA 1 1 (.t 27))),
   .op (some 29) (.c (.ld 1 false (.t 28))),
   .op (some 30) (.c (.mv (.t 0))),
   .op (some 31) (.c (.lenS (.t 30))),
   .op (some 32) (.c (.bin .lss (.t 29) (.t 31)))] [0, 2, 3, 4, 5, 6, 32] [2, 3, 4])
 (.cond (.t 32) (.skip) (.exit 0)))
 (.block 1 (.rg [0, 1, 2, 3, 4, 7, 8, 5, 6, 9, 10, 11, 12, 13] [.op (some 33) (.c (.mv (.t 5))),
   .op (some 34) (.c (.mv (.t 0))),
   .op (some 35) (.c (.mv (.t 5))),
   .op (some 36) (.c (.nilc (.t 35))),
   .op (some 37) (.c (.fldA 1 1 (.t 36))),
   .op (some 40) (.c (.nilc (.t 33))),
   .op (some 41) (.c (.fldA 2 2 (.t 40))),
   .op (some 38) (.c (.ld 1 false (.t 37))),
   .op (some 39) (.c (.idx (.t 34) (.t 38))),
   .op (some 42) (.c (.idxP 256 1 (.t 41) (.t 39))),
   .op (some 43) (.c (.ld 1 false (.t 42))),
   .op (some 44) (.c (.idxP 5 1 (.t 6) (.t 43))),
   .op (some 45) (.c (.ld 1 false (.t 44))),
   .op (some 46) (.callv (.t 45) [])] [0, 2, 3, 4, 5, 6] [2, 3, 4]))
def ir15 : FSt := .pre (.rg [] [.op (some 2) (.alloc 40 (.nils)),
   .op (some 3) (.alloc 3 (.int .i64 0)),
   .op (some 4) (.alloc 31 (.int .i64 0))] [0, 2, 3, 4] [])
 (.pre (.seq (.rg [] [.op (some 7) (.c (.mv (.t 0))),
   .op (some 8) (.c (.lenS (.t 7))),
   .op (some 9) (.c (.bin .gtr (.t 8) (.int .i64 65536)))] [0, 2, 3, 4, 9] [])
 (.cond (.t 9) (.seq (.rg [] [.op none (.st 1 (.t 2) .nils),
   .op none (.st 1 (.t 3) (.int .i64 0)),
   .op none (.st 1 (.t 4) (.int .i64 2))] [2, 3, 4] [])
 (.ret)) (.skip)))
 (.dfr [.op (some 10) (.c (.mkf 41 [] [(.t 2), (.t 3), (.t 4)]))] [0, 2, 3, 4, 10] 10
 (.seq (.rg [] [.op (some 11) (.c (.mv (.t 0))),
   .op (some 12) (.pcall 42 []),
   .op (some 13) (.c (.bld [.str [], .int .i64 0, .agg (List.replicate 256 (.int .i64 0)), .nils] [(0, (.t 11)), (2, (.t 12))])),
   .op (some 14) (.box 119 (.t 13)),
   .op (some 5) (.mvg 44 4 (.t 14) (.t 14) [3])] [0, 2, 3, 4, 5] [2, 3, 4])
 (.seq (.rg [] [.op (some 15) (.c (.mv (.t 5))),
   .op (some 16) (.c (.mkf 43 [(.t 15)] [])),
   .op (some 17) (.c (.mv (.t 5))),
   .op (some 18) (.c (.mkf 44 [(.t 17)] [])),
   .op (some 19) (.c (.mv (.t 5))),
   .op (some 20) (.c (.mkf 45 [(.t 19)] [])),
   .op (some 21) (.c (.mv (.t 5))),
   .op (some 22) (.c (.mkf 46 [(.t 21)] [])),
   .op (some 23) (.c (.mv (.t 5))),
   .op (some 24) (.c (.mkf 47 [(.t 23)] [])),
   .op (some 25) (.c (.bld [.nilf, .nilf, .nilf, .nilf, .nilf] [(0, (.t 16)), (1, (.t 18)), (2, (.t 20)), (3, (.t 22)), (4, (.t 24))])),
   .op (some 6) (.alloc 120 (.agg (List.replicate 5 (.nilf)))),
   .op none (.st 5 (.t 6) (.t 25))] [0, 2, 3, 4, 5, 6] [2, 3, 4])
 (.seq (.block 0 (.loop [0, 2, 3, 4, 5, 6] ir15_l0))
 (.seq (.rg [] [.op (some 47) (.c (.mv (.t 5))),
   .op (some 48) (.c (.nilc (.t 47))),
   .op (some 49) (.c (.fldA 3 258 (.t 48))),
   .op (some 50) (.c (.ld 1 false (.t 49))),
   .op none (.st 1 (.t 2) (.t 50)),
   .op none (.st 1 (.t 3) (.int .i64 0)),
   .op none (.st 1 (.t 4) (.int .i64 0))] [2, 3, 4] [2, 3, 4])
 (.ret)))))))
theorem ok15 : fnOkD Tryz.prog 15 1 ir15 [.c 2 1 false, .c 3 1 false, .c 4 1 false] = true := by kernel_rfl
def ir38_s0 : S := .rg [] [.op (some 30) (.c (.bin .add (.t 9) (.int .i64 1))),
   .op (some 9) (.c (.mv (.t 30)))] [4, 7, 8, 9] []
def ir38_s1 : S := .seq (.rg [] [.op (some 20) (.c (.fldA 0 0 (.t 6))),
   .op (some 21) (.c (.ld 1 false (.t 20))),
   .op (some 22) (.c (.bin .eql (.t 21) (.int .i64 2)))] [4, 6, 7, 8, 9, 22] [])
 (.cond (.t 22) (.rg [] [.op (some 23) (.c (.fldA 2 2 (.t 6))),
   .op (some 24) (.c (.ld 1 false (.t 23))),
   .op (some 25) (.pcall 115 [(.t 24)]),
   .op (some 26) (.call 114 [(.t 4), (.t 25)])] [4, 7, 8, 9] []) (.rg [] [.op (some 27) (.c (.fldA 1 1 (.t 6))),
   .op (some 28) (.c (.ld 1 false (.t 27))),
   .op (some 29) (.call 114 [(.t 4), (.t 28)])] [4, 7, 8, 9] []))
def ir38_l2 : S := .seq (.rg [] [.op (some 10) (.c (.bin .lss (.t 9) (.t 8)))] [4, 7, 8, 9, 10] [])
 (.seq (.cond (.t 10) (.skip) (.exit 0))
 (.seq (.block 1 (.seq (.rg [] [.op (some 11) (.c (.mv (.t 9))),
   .op (some 12) (.c (.idxA 4 (.t 7) (.t 9))),
   .op (some 13) (.c (.ld 4 true (.t 12))),
   .op (some 6) (.alloc 44 (.agg [.int .i64 0, .str [], .int .i64 0, .int .i64 0])),
   .op (some 5) (.c (.mv (.t 11))),
   .op none (.st 4 (.t 6) (.t 13))] [4, 5, 6, 7, 8, 9] [])
 (.seq (.seq (.rg [] [.op (some 14) (.c (.ld 4 true (.t 6))),
   .op (some 15) (.pcall 112 [(.t 14)]),
   .op (some 16) (.c (.not (.t 15)))] [4, 5, 6, 7, 8, 9, 16] [])
 (.cond (.t 16) (.seq (.rg [] [.op (some 2) (.c (.mv (.str []))),
   .op (some 3) (.c (.mv (.int .i64 90)))] [2, 3] [])
 (.ret)) (.skip)))
 (.seq (.seq (.rg [] [.op (some 17) (.c (.mv (.t 5))),
   .op (some 18) (.c (.bin .gtr (.t 17) (.int .i64 0)))] [4, 6, 7, 8, 9, 18] [])
 (.cond (.t 18) (.rg [] [.op (some 19) (.call 113 [(.t 4), (.int .u8 32)])] [4, 6, 7, 8, 9] []) (.skip)))
 (ir38_s1)))))
 (ir38_s0)))
def ir38 : S := .seq (.rg [] [.op (some 2) (.c (.mv (.str []))),
   .op (some 3) (.c (.mv (.int .i64 0)))] [0] [])
 (.seq (.rg [] [.op (some 4) (.alloc 184 (.agg [.nilp, .nils]))] [0, 4] [])
 (.seq (.seq (.rg [] [.op (some 7) (.c (.mv (.t 0))),
   .op (some 8) (.c (.lenL (.t 7))),
   .op (some 9) (.c (.mv (.int .i64 0)))] [4, 7, 8, 9] [])
 (.block 0 (.loop [4, 7, 8, 9] ir38_l2)))
 (.seq (.rg [] [.op (some 31) (.call 116 [(.t 4)]),
   .op (some 2) (.c (.mv (.t 31))),
   .op (some 3) (.c (.mv (.int .i64 0)))] [2, 3] [])
 (.ret))))
theorem ok38 : fnOk Tryz.prog 38 1 ir38 [.t 2, .t 3] = true := by kernel_rfl
def ir41_s0 : S := .rg [] [.op (some 17) (.c (.mv (.t 4))),
   .op none (.st 1 (.t 0) .nils),
   .op none (.st 1 (.t 1) (.t 17)),
   .op none (.st 1 (.t 2) (.int .i64 90))] [] []
def ir41_r : List It := [.op (some 3) (.c (.mv (.t 6)))]
def ir41_k : List Nat := [0, 1, 2, 3]
def ir41 : S := .seq (.rg [] [.op (some 7) (.c (.mv (.t 3))),
   .op (some 8) (.c (.isnil false (.t 7)))] [0, 1, 2, 3, 8] [])
 (.cond (.t 8) (.seq (.rg [] [.op (some 10) (.c (.mv (.t 3))),
   .op (some 11) (.c (.tas 113 (.int .i64 0) (.t 10))),
   .op (some 9) (.c (.mv (.t 11))),
   .op (some 12) (.c (.ext (.t 9) 0)),
   .op (some 13) (.c (.ext (.t 9) 1)),
   .op (some 4) (.c (.mv (.t 12))),
   .op (some 5) (.c (.mv (.t 13)))] [0, 1, 2, 3, 4, 5] [])
 (.seq (.seq (.rg [] [.op (some 14) (.c (.mv (.t 5))),
   .op (some 15) (.c (.not (.t 14)))] [0, 1, 2, 3, 4, 15] [])
 (.cond (.t 15) (.rg [] [.op (some 16) (.c (.mv (.t 3))),
   .op none (.panic (.t 16))] [0, 1, 2, 4] []) (.skip)))
 (ir41_s0))) (.skip))
theorem ok41 : dfnOk Tryz.prog 41 3 6 ir41_r ir41 = true := by kernel_rfl
def ir42_l0 : S := .seq (.rg [] [.op (some 38) (.c (.bin .lss (.t 37) (.t 36)))] [0, 35, 36, 37, 38] [])
 (.seq (.cond (.t 38) (.skip) (.exit 6))
 (.seq (.block 7 (.seq (.rg [] [.op (some 39) (.c (.idxA 1 (.t 35) (.t 37))),
   .op (some 40) (.c (.ld 1 false (.t 39))),
   .op (some 6) (.c (.mv (.t 40)))] [0, 6, 35, 36, 37] [])
 (.rg [] [.op (some 41) (.c (.mv (.t 6))),
   .op (some 42) (.c (.idxP 256 1 (.t 0) (.t 41))),
   .op none (.st 1 (.t 42) (.int .i64 4))] [0, 35, 36, 37] [])))
 (.rg [] [.op (some 43) (.c (.bin .add (.t 37) (.int .i64 1))),
   .op (some 37) (.c (.mv (.t 43)))] [0, 35, 36, 37] [])))
def ir42_l1 : S := .seq (.rg [] [.op (some 28) (.c (.bin .lss (.t 27) (.t 26)))] [0, 25, 26, 27, 28] [])
 (.seq (.cond (.t 28) (.skip) (.exit 4))
 (.seq (.block 5 (.seq (.rg [] [.op (some 29) (.c (.idxA 1 (.t 25) (.t 27))),
   .op (some 30) (.c (.ld 1 false (.t 29))),
   .op (some 4) (.c (.mv (.t 30)))] [0, 4, 25, 26, 27] [])
 (.rg [] [.op (some 31) (.c (.mv (.t 4))),
   .op (some 32) (.c (.idxP 256 1 (.t 0) (.t 31))),
   .op none (.st 1 (.t 32) (.int .i64 1))] [0, 25, 26, 27] [])))
 (.rg [] [.op (some 33) (.c (.bin .add (.t 27) (.int .i64 1))),
   .op (some 27) (.c (.mv (.t 33)))] [0, 25, 26, 27] [])))
def ir42_l2 : S := .seq (.rg [] [.op (some 18) (.c (.bin .lss (.t 17) (.int .i64 10)))] [0, 17, 18] [])
 (.seq (.cond (.t 18) (.skip) (.exit 2))
 (.seq (.block 3 (.seq (.rg [] [.op (some 19) (.c (.mv (.t 17))),
   .op (some 2) (.c (.mv (.t 19)))] [0, 2, 17] [])
 (.rg [] [.op (some 20) (.c (.mv (.t 2))),
   .op (some 21) (.c (.bin .add (.int .i64 48) (.t 20))),
   .op (some 22) (.c (.idxP 256 1 (.t 0) (.t 21))),
   .op none (.st 1 (.t 22) (.int .i64 3))] [0, 17] [])))
 (.rg [] [.op (some 23) (.c (.bin .add (.t 17) (.int .i64 1))),
   .op (some 17) (.c (.mv (.t 23)))] [0, 17] [])))
def ir42_l3 : S := .seq (.rg [] [.op (some 8) (.c (.bin .lss (.t 7) (.int .i64 26)))] [0, 7, 8] [])
 (.seq (.cond (.t 8) (.skip) (.exit 0))
 (.seq (.block 1 (.seq (.rg [] [.op (some 9) (.c (.mv (.t 7))),
   .op (some 1) (.c (.mv (.t 9)))] [0, 1, 7] [])
 (.rg [] [.op (some 10) (.c (.mv (.t 1))),
   .op (some 11) (.c (.bin .add (.int .i64 65) (.t 10))),
   .op (some 12) (.c (.mv (.t 1))),
   .op (some 13) (.c (.bin .add (.int .i64 97) (.t 12))),
   .op (some 14) (.c (.idxP 256 1 (.t 0) (.t 11))),
   .op none (.st 1 (.t 14) (.int .i64 2)),
   .op (some 15) (.c (.idxP 256 1 (.t 0) (.t 13))),
   .op none (.st 1 (.t 15) (.int .i64 2))] [0, 7] [])))
 (.rg [] [.op (some 16) (.c (.bin .add (.t 7) (.int .i64 1))),
   .op (some 7) (.c (.mv (.t 16)))] [0, 7] [])))
def ir42 : S := .seq (.rg [] [.op (some 0) (.alloc 116 (.agg (List.replicate 256 (.int .i64 0))))] [0] [])
 (.seq (.seq (.rg [] [.op (some 7) (.c (.mv (.int .i64 0)))] [0, 7] [])
 (.block 0 (.loop [0, 7] ir42_l3)))
 (.seq (.seq (.rg [] [.op (some 17) (.c (.mv (.int .i64 0)))] [0, 17] [])
 (.block 2 (.loop [0, 17] ir42_l2)))
 (.seq (.seq (.rg [] [.op (some 24) (.blo 5 1 [.int .u8 0, .int .u8 0, .int .u8 0, .int .u8 0] [(0, (.int .u8 32)), (1, (.int .u8 9)), (2, (.int .u8 10)), (3, (.int .u8 13))]),
   .op (some 25) (.cvb (.t 24)),
   .op (some 26) (.c (.lenL (.t 25))),
   .op (some 27) (.c (.mv (.int .i64 0)))] [0, 25, 26, 27] [])
 (.block 4 (.loop [0, 25, 26, 27] ir42_l1)))
 (.seq (.seq (.rg [] [.op (some 34) (.blo 5 1 (List.replicate 15 (.int .u8 0)) [(0, (.int .u8 123)), (1, (.int .u8 125)), (2, (.int .u8 40)), (3, (.int .u8 41)), (4, (.int .u8 59)), (5, (.int .u8 44)), (6, (.int .u8 61)), (7, (.int .u8 35)), (8, (.int .u8 47)), (9, (.int .u8 60)), (10, (.int .u8 33)), (11, (.int .u8 45)), (12, (.int .u8 46)), (13, (.int .u8 58)), (14, (.int .u8 43))]),
   .op (some 35) (.cvb (.t 34)),
   .op (some 36) (.c (.lenL (.t 35))),
   .op (some 37) (.c (.mv (.int .i64 0)))] [0, 35, 36, 37] [])
 (.block 6 (.loop [0, 35, 36, 37] ir42_l0)))
 (.seq (.rg [] [.op (some 44) (.c (.ld 256 true (.t 0))),
   .op none (.st 256 (.t 0) (.t 44))] [0] [])
 (.ret))))))
theorem ok42 : fnOk Tryz.prog 42 0 ir42 [.c 0 256 true] = true := by kernel_rfl
def ir43 : S := .rg [] [.op (some 2) (.c (.mv (.t 0))),
   .op (some 3) (.c (.nilc (.t 2))),
   .op (some 4) (.c (.fldA 1 1 (.t 3))),
   .op (some 5) (.c (.ld 1 false (.t 4))),
   .op (some 6) (.c (.mki 113 (.t 5))),
   .op none (.panic (.t 6))] [] []
theorem ok43 : fnOk Tryz.prog 43 1 ir43 [] = true := by kernel_rfl
def ir44 : S := .rg [] [.op (some 2) (.c (.mv (.t 0))),
   .op (some 3) (.c (.nilc (.t 2))),
   .op (some 4) (.c (.fldA 1 1 (.t 3))),
   .op (some 5) (.c (.ld 1 false (.t 4))),
   .op (some 6) (.c (.bin .add (.t 5) (.int .i64 1))),
   .op (some 7) (.c (.nilc (.t 2))),
   .op (some 8) (.c (.fldA 1 1 (.t 7))),
   .op none (.st 1 (.t 8) (.t 6))] [] []
theorem ok44 : fnOk Tryz.prog 44 1 ir44 [] = true := by kernel_rfl
def ir45_s0 : S := .rg [] [.op (some 14) (.c (.ld 1 false (.t 1))),
   .op (some 15) (.c (.mv (.t 2))),
   .op (some 16) (.c (.bld [.int .i64 0, .str [], .int .i64 0, .int .i64 0] [(0, (.int .i64 1)), (1, (.t 15))])),
   .op (some 17) (.c (.mv (.t 2))),
   .op (some 18) (.c (.lenS (.t 17))),
   .op (some 19) (.call 120 [(.t 14), (.t 16), (.t 18)])] [] []
def ir45 : S := .seq (.rg [] [.op (some 1) (.box 115 (.t 0))] [1] [])
 (.seq (.rg [] [.op (some 3) (.c (.ld 1 false (.t 1))),
   .op (some 4) (.c (.mkf 119 [] [(.t 1)])),
   .op (some 5) (.pcall 118 [(.t 3), (.t 4)]),
   .op (some 2) (.c (.mv (.t 5)))] [1, 2] [])
 (.seq (.seq (.rg [] [.op (some 6) (.c (.mv (.t 2))),
   .op (some 7) (.c (.lenS (.t 6))),
   .op (some 8) (.c (.bin .gtr (.t 7) (.int .i64 32)))] [1, 2, 8] [])
 (.cond (.t 8) (.rg [] [.op (some 9) (.c (.ld 1 false (.t 1))),
   .op (some 10) (.c (.nilc (.t 9))),
   .op (some 11) (.c (.fldA 1 1 (.t 10))),
   .op (some 12) (.c (.ld 1 false (.t 11))),
   .op (some 13) (.c (.mki 113 (.t 12))),
   .op none (.panic (.t 13))] [1, 2] []) (.skip)))
 (ir45_s0)))
theorem ok45 : fnOk Tryz.prog 45 1 ir45 [] = true := by kernel_rfl
def ir46_s0 : S := .rg [] [.op (some 37) (.c (.bin .add (.t 10) (.int .i64 1))),
   .op (some 10) (.c (.mv (.t 37)))] [1, 2, 3, 9, 10] []
def ir46_l1 : S := .seq (.rg [] [.op (some 11) (.c (.bin .lss (.t 10) (.t 9)))] [1, 2, 3, 9, 10, 11] [])
 (.seq (.cond (.t 11) (.skip) (.exit 0))
 (.seq (.block 1 (.seq (.rg [] [.op (some 12) (.c (.mv (.t 10))),
   .op (some 4) (.c (.mv (.t 12)))] [1, 2, 3, 4, 9, 10] [])
 (.seq (.rg [] [.op (some 13) (.c (.mv (.t 3))),
   .op (some 14) (.c (.bin .mul (.int .i64 10) (.t 13))),
   .op (some 15) (.c (.mv (.t 2))),
   .op (some 16) (.c (.mv (.t 4))),
   .op (some 17) (.c (.idx (.t 15) (.t 16))),
   .op (some 18) (.c (.bin .sub (.t 17) (.int .u8 48))),
   .op (some 19) (.c (.cvi .i64 (.t 18))),
   .op (some 20) (.c (.bin .add (.t 14) (.t 19))),
   .op (some 3) (.c (.mv (.t 20)))] [1, 2, 3, 4, 9, 10] [])
 (.seq (.rg [] [.op (some 21) (.c (.mv (.t 3))),
   .op (some 22) (.c (.bin .gtr (.t 21) (.int .i64 1099511627776))),
   .op (some 23) (.c (.mv (.t 22))),
   .gop 23 false (some 24) (.c (.mv (.t 4))),
   .gop 23 false (some 25) (.c (.bin .gtr (.t 24) (.int .i64 0))),
   .gop 23 false (some 26) (.c (.mv (.t 25))),
   .gop 26 true (some 27) (.c (.mv (.t 2))),
   .gop 26 true (some 28) (.c (.idx (.t 27) (.int .i64 0))),
   .gop 26 true (some 29) (.c (.bin .eql (.t 28) (.int .u8 48))),
   .gop 23 false (some 30) (.c (.pick (.t 26) (.t 29) (.bool false))),
   .op (some 31) (.c (.pick (.t 23) (.bool true) (.t 30)))] [1, 2, 3, 9, 10, 31] [])
 (.cond (.t 31) (.rg [] [.op (some 32) (.c (.ld 1 false (.t 1))),
   .op (some 33) (.c (.nilc (.t 32))),
   .op (some 34) (.c (.fldA 1 1 (.t 33))),
   .op (some 35) (.c (.ld 1 false (.t 34))),
   .op (some 36) (.c (.mki 113 (.t 35))),
   .op none (.panic (.t 36))] [1, 2, 3, 9, 10] []) (.skip))))))
 (ir46_s0)))
def ir46 : S := .seq (.rg [] [.op (some 1) (.box 115 (.t 0))] [1] [])
 (.seq (.rg [] [.op (some 5) (.c (.ld 1 false (.t 1))),
   .op (some 6) (.c (.mkf 121 [] [(.t 1)])),
   .op (some 7) (.pcall 118 [(.t 5), (.t 6)]),
   .op (some 2) (.c (.mv (.t 7)))] [1, 2] [])
 (.seq (.rg [] [.op (some 3) (.c (.mv (.int .i64 0)))] [1, 2, 3] [])
 (.seq (.seq (.rg [] [.op (some 8) (.c (.mv (.t 2))),
   .op (some 9) (.c (.lenS (.t 8))),
   .op (some 10) (.c (.mv (.int .i64 0)))] [1, 2, 3, 9, 10] [])
 (.block 0 (.loop [1, 2, 3, 9, 10] ir46_l1)))
 (.rg [] [.op (some 38) (.c (.ld 1 false (.t 1))),
   .op (some 39) (.c (.mv (.t 3))),
   .op (some 40) (.c (.bld [.int .i64 0, .str [], .int .i64 0, .int .i64 0] [(0, (.int .i64 2)), (2, (.t 39))])),
   .op (some 41) (.c (.mv (.t 2))),
   .op (some 42) (.c (.lenS (.t 41))),
   .op (some 43) (.call 120 [(.t 38), (.t 40), (.t 42)])] [] []))))
theorem ok46 : fnOk Tryz.prog 46 1 ir46 [] = true := by kernel_rfl
def ir47 : S := .seq (.seq (.rg [0, 1, 2, 4, 5, 6, 3, 7, 8, 9] [.op (some 2) (.c (.mv (.t 0))),
   .op (some 3) (.c (.nilc (.t 2))),
   .op (some 4) (.c (.fldA 0 0 (.t 3))),
   .op (some 6) (.c (.mv (.t 0))),
   .op (some 7) (.c (.nilc (.t 6))),
   .op (some 8) (.c (.fldA 1 1 (.t 7))),
   .op (some 5) (.c (.ld 1 false (.t 4))),
   .op (some 9) (.c (.ld 1 false (.t 8))),
   .op (some 10) (.c (.slcS (.t 5) (some (.t 9)) none)),
   .op (some 11) (.pcall 122 [(.t 10), (.str [47, 47])])] [0, 11] [])
 (.cond (.t 11) (.seq (.rg [0, 1, 2, 4, 3, 5, 6, 7, 8, 9, 10] [.op (some 12) (.c (.mv (.t 0))),
   .op (some 13) (.c (.nilc (.t 12))),
   .op (some 14) (.c (.fldA 1 1 (.t 13))),
   .op (some 16) (.c (.mv (.t 0))),
   .op (some 15) (.c (.ld 1 false (.t 14))),
   .op (some 17) (.pcall 118 [(.t 16), (.fn 123)]),
   .op (some 18) (.c (.lenS (.t 17))),
   .op (some 19) (.c (.bin .add (.t 15) (.t 18))),
   .op (some 20) (.c (.nilc (.t 12))),
   .op (some 21) (.c (.fldA 1 1 (.t 20))),
   .op none (.st 1 (.t 21) (.t 19))] [] [])
 (.ret)) (.skip)))
 (.rg [0, 1, 2, 3, 5, 6, 7, 9, 10, 11, 4, 8, 12, 13, 14, 15, 16] [.op (some 22) (.c (.mv (.t 0))),
   .op (some 23) (.c (.mv (.t 0))),
   .op (some 24) (.c (.nilc (.t 23))),
   .op (some 25) (.c (.fldA 0 0 (.t 24))),
   .op (some 27) (.c (.mv (.t 0))),
   .op (some 28) (.c (.nilc (.t 27))),
   .op (some 29) (.c (.fldA 1 1 (.t 28))),
   .op (some 31) (.c (.mv (.t 0))),
   .op (some 32) (.c (.nilc (.t 31))),
   .op (some 33) (.c (.fldA 1 1 (.t 32))),
   .op (some 26) (.c (.ld 1 false (.t 25))),
   .op (some 30) (.c (.ld 1 false (.t 29))),
   .op (some 34) (.c (.ld 1 false (.t 33))),
   .op (some 35) (.c (.bin .add (.t 34) (.int .i64 1))),
   .op (some 36) (.c (.slcS (.t 26) (some (.t 30)) (some (.t 35)))),
   .op (some 37) (.c (.bld [.int .i64 0, .str [], .int .i64 0, .int .i64 0] [(0, (.int .i64 3)), (1, (.t 36))])),
   .op (some 38) (.call 120 [(.t 22), (.t 37), (.int .i64 1)])] [] [])
theorem ok47 : fnOk Tryz.prog 47 1 ir47 [] = true := by kernel_rfl
def ir100_l0 : S := .seq (.rg [] [.op (some 16) (.c (.bin .lss (.t 15) (.t 14)))] [0, 14, 15, 16] [])
 (.seq (.cond (.t 16) (.skip) (.exit 0))
 (.seq (.block 1 (.seq (.rg [] [.op (some 17) (.c (.mv (.t 15))),
   .op (some 3) (.c (.mv (.t 17)))] [0, 3, 14, 15] [])
 (.seq (.rg [] [.op (some 18) (.c (.mv (.t 0))),
   .op (some 19) (.c (.mv (.t 3))),
   .op (some 20) (.c (.idx (.t 18) (.t 19))),
   .op (some 4) (.c (.mv (.t 20)))] [0, 3, 4, 14, 15] [])
 (.seq (.rg [] [.op (some 21) (.c (.mv (.t 4))),
   .op (some 22) (.c (.bin .geq (.t 21) (.int .u8 65))),
   .op (some 23) (.c (.mv (.t 22))),
   .gop 23 true (some 24) (.c (.mv (.t 4))),
   .gop 23 true (some 25) (.c (.bin .leq (.t 24) (.int .u8 90))),
   .op (some 26) (.c (.pick (.t 23) (.t 25) (.bool false))),
   .op (some 27) (.c (.mv (.t 26))),
   .gop 27 false (some 28) (.c (.mv (.t 4))),
   .gop 27 false (some 29) (.c (.bin .geq (.t 28) (.int .u8 97))),
   .gop 27 false (some 30) (.c (.mv (.t 29))),
   .gop 30 true (some 31) (.c (.mv (.t 4))),
   .gop 30 true (some 32) (.c (.bin .leq (.t 31) (.int .u8 122))),
   .gop 27 false (some 33) (.c (.pick (.t 30) (.t 32) (.bool false))),
   .op (some 34) (.c (.pick (.t 27) (.bool true) (.t 33))),
   .op (some 5) (.c (.mv (.t 34)))] [0, 3, 4, 5, 14, 15] [])
 (.seq (.rg [] [.op (some 35) (.c (.mv (.t 5))),
   .op (some 36) (.c (.not (.t 35))),
   .op (some 37) (.c (.mv (.t 36))),
   .gop 37 true (some 38) (.c (.mv (.t 3))),
   .gop 37 true (some 39) (.c (.bin .eql (.t 38) (.int .i64 0))),
   .gop 37 true (some 40) (.c (.mv (.t 39))),
   .gop 40 false (some 41) (.c (.mv (.t 4))),
   .gop 40 false (some 42) (.c (.bin .neq (.t 41) (.int .u8 95))),
   .gop 40 false (some 43) (.c (.mv (.t 42))),
   .gop 43 true (some 44) (.c (.mv (.t 4))),
   .gop 43 true (some 45) (.c (.bin .lss (.t 44) (.int .u8 48))),
   .gop 43 true (some 46) (.c (.mv (.t 45))),
   .gop 46 false (some 47) (.c (.mv (.t 4))),
   .gop 46 false (some 48) (.c (.bin .gtr (.t 47) (.int .u8 57))),
   .gop 43 true (some 49) (.c (.pick (.t 46) (.bool true) (.t 48))),
   .gop 40 false (some 50) (.c (.pick (.t 43) (.t 49) (.bool false))),
   .gop 37 true (some 51) (.c (.pick (.t 40) (.bool true) (.t 50))),
   .op (some 52) (.c (.pick (.t 37) (.t 51) (.bool false)))] [0, 14, 15, 52] [])
 (.cond (.t 52) (.seq (.rg [] [.op (some 2) (.c (.mv (.bool false)))] [2] [])
 (.ret)) (.skip)))))))
 (.rg [] [.op (some 53) (.c (.bin .add (.t 15) (.int .i64 1))),
   .op (some 15) (.c (.mv (.t 53)))] [0, 14, 15] [])))
def ir100 : S := .seq (.rg [] [.op (some 2) (.c (.mv (.bool false)))] [0] [])
 (.seq (.seq (.rg [] [.op (some 6) (.c (.mv (.t 0))),
   .op (some 7) (.c (.bin .eql (.t 6) (.str []))),
   .op (some 8) (.c (.mv (.t 7))),
   .gop 8 false (some 9) (.c (.mv (.t 0))),
   .gop 8 false (some 10) (.c (.lenS (.t 9))),
   .gop 8 false (some 11) (.c (.bin .gtr (.t 10) (.int .i64 32))),
   .op (some 12) (.c (.pick (.t 8) (.bool true) (.t 11)))] [0, 12] [])
 (.cond (.t 12) (.seq (.rg [] [.op (some 2) (.c (.mv (.bool false)))] [2] [])
 (.ret)) (.skip)))
 (.seq (.seq (.rg [] [.op (some 13) (.c (.mv (.t 0))),
   .op (some 14) (.c (.lenS (.t 13))),
   .op (some 15) (.c (.mv (.int .i64 0)))] [0, 14, 15] [])
 (.block 0 (.loop [0, 14, 15] ir100_l0)))
 (.seq (.rg [] [.op (some 2) (.c (.mv (.bool true)))] [2] [])
 (.ret))))
theorem ok100 : fnOk Tryz.prog 100 1 ir100 [.t 2] = true := by kernel_rfl
def ir112 : S := .seq (.rg [] [.op (some 1) (.box 44 (.t 0)),
   .op (some 2) (.c (.mv (.bool false)))] [1] [])
 (.seq (.seq (.rg [] [.op (some 3) (.c (.fldA 0 0 (.t 1))),
   .op (some 4) (.c (.ld 1 false (.t 3)))] [1, 4] [])
 (.block 0 (.seq (.rg [] [.op (some 6) (.c (.bin .eql (.t 4) (.int .i64 1))),
   .op (some 5) (.c (.mv (.t 6)))] [1, 4, 5] [])
 (.cond (.t 5) (.seq (.rg [] [.op (some 7) (.c (.fldA 1 1 (.t 1))),
   .op (some 8) (.c (.ld 1 false (.t 7))),
   .op (some 9) (.pcall 100 [(.t 8)]),
   .op (some 10) (.c (.mv (.t 9))),
   .gop 10 true (some 11) (.c (.fldA 2 2 (.t 1))),
   .gop 10 true (some 12) (.c (.ld 1 false (.t 11))),
   .gop 10 true (some 13) (.c (.bin .eql (.t 12) (.int .i64 0))),
   .op (some 14) (.c (.pick (.t 10) (.t 13) (.bool false))),
   .op (some 2) (.c (.mv (.t 14)))] [2] [])
 (.ret)) (.seq (.rg [] [.op (some 16) (.c (.bin .eql (.t 4) (.int .i64 2))),
   .op (some 15) (.c (.mv (.t 16)))] [1, 4, 15] [])
 (.cond (.t 15) (.seq (.rg [] [.op (some 17) (.c (.fldA 1 1 (.t 1))),
   .op (some 18) (.c (.ld 1 false (.t 17))),
   .op (some 19) (.c (.bin .eql (.t 18) (.str []))),
   .op (some 20) (.c (.mv (.t 19))),
   .gop 20 true (some 21) (.c (.fldA 2 2 (.t 1))),
   .gop 20 true (some 22) (.c (.ld 1 false (.t 21))),
   .gop 20 true (some 23) (.c (.bin .geq (.t 22) (.int .i64 0))),
   .op (some 24) (.c (.pick (.t 20) (.t 23) (.bool false))),
   .op (some 25) (.c (.mv (.t 24))),
   .gop 25 true (some 26) (.c (.fldA 2 2 (.t 1))),
   .gop 25 true (some 27) (.c (.ld 1 false (.t 26))),
   .gop 25 true (some 28) (.c (.bin .leq (.t 27) (.int .i64 1099511627776))),
   .op (some 29) (.c (.pick (.t 25) (.t 28) (.bool false))),
   .op (some 2) (.c (.mv (.t 29)))] [2] [])
 (.ret)) (.seq (.rg [] [.op (some 31) (.c (.bin .eql (.t 4) (.int .i64 3))),
   .op (some 30) (.c (.mv (.t 31)))] [1, 30] [])
 (.cond (.t 30) (.seq (.rg [] [.op (some 32) (.c (.fldA 1 1 (.t 1))),
   .op (some 33) (.c (.ld 1 false (.t 32))),
   .op (some 34) (.c (.lenS (.t 33))),
   .op (some 35) (.c (.bin .eql (.t 34) (.int .i64 1))),
   .op (some 36) (.c (.mv (.t 35))),
   .gop 36 true (some 37) (.c (.fldA 1 1 (.t 1))),
   .gop 36 true (some 38) (.c (.ld 1 false (.t 37))),
   .gop 36 true (some 39) (.pcall 170 [(.str [123, 125, 40, 41, 59, 44, 61, 35, 47, 60, 33, 45, 46, 58, 43]), (.t 38)]),
   .op (some 40) (.c (.pick (.t 36) (.t 39) (.bool false))),
   .op (some 41) (.c (.mv (.t 40))),
   .gop 41 true (some 42) (.c (.fldA 2 2 (.t 1))),
   .gop 41 true (some 43) (.c (.ld 1 false (.t 42))),
   .gop 41 true (some 44) (.c (.bin .eql (.t 43) (.int .i64 0))),
   .op (some 45) (.c (.pick (.t 41) (.t 44) (.bool false))),
   .op (some 2) (.c (.mv (.t 45)))] [2] [])
 (.ret)) (.skip)))))))))
 (.seq (.rg [] [.op (some 2) (.c (.mv (.bool false)))] [2] [])
 (.ret)))
theorem ok112 : fnOk Tryz.prog 112 1 ir112 [.t 2] = true := by kernel_rfl
def ir113 : S := .seq (.rg [] [.op (some 4) (.c (.mv .nili))] [0, 1] [])
 (.seq (.rg [] [.op (some 5) (.c (.mv (.t 0))),
   .op (some 6) (.call 171 [(.t 5)])] [0, 1] [])
 (.seq (.rg [] [.op (some 7) (.c (.mv (.t 0))),
   .op (some 8) (.c (.mv (.t 0))),
   .op (some 9) (.c (.nilc (.t 8))),
   .op (some 10) (.c (.fldA 1 1 (.t 9))),
   .op (some 11) (.c (.ld 1 false (.t 10))),
   .op (some 12) (.c (.mv (.t 1))),
   .op (some 13) (.bls 1 [.int .u8 0] [(0, (.t 12))]),
   .op (some 14) (.app 5 1 1 (.t 11) (.t 13)),
   .op (some 15) (.c (.nilc (.t 7))),
   .op (some 16) (.c (.fldA 1 1 (.t 15))),
   .op none (.st 1 (.t 16) (.t 14))] [] [])
 (.seq (.rg [] [.op (some 4) (.c (.mv .nili))] [4] [])
 (.ret))))
theorem ok113 : fnOk Tryz.prog 113 2 ir113 [.t 4] = true := by kernel_rfl
def ir114 : S := .seq (.rg [] [.op (some 4) (.c (.mv (.int .i64 0))),
   .op (some 5) (.c (.mv .nili))] [0, 1] [])
 (.seq (.rg [] [.op (some 6) (.c (.mv (.t 0))),
   .op (some 7) (.call 171 [(.t 6)])] [0, 1] [])
 (.seq (.rg [] [.op (some 8) (.c (.mv (.t 0))),
   .op (some 9) (.c (.mv (.t 0))),
   .op (some 10) (.c (.nilc (.t 9))),
   .op (some 11) (.c (.fldA 1 1 (.t 10))),
   .op (some 12) (.c (.ld 1 false (.t 11))),
   .op (some 13) (.c (.mv (.t 1))),
   .op (some 14) (.appS 5 1 (.t 12) (.t 13)),
   .op (some 15) (.c (.nilc (.t 8))),
   .op (some 16) (.c (.fldA 1 1 (.t 15))),
   .op none (.st 1 (.t 16) (.t 14))] [1] [])
 (.seq (.rg [] [.op (some 17) (.c (.mv (.t 1))),
   .op (some 18) (.c (.lenS (.t 17))),
   .op (some 4) (.c (.mv (.t 18))),
   .op (some 5) (.c (.mv .nili))] [4, 5] [])
 (.ret))))
theorem ok114 : fnOk Tryz.prog 114 2 ir114 [.t 4, .t 5] = true := by kernel_rfl
def ir116 : S := .seq (.rg [] [.op (some 2) (.c (.mv (.str [])))] [0] [])
 (.seq (.rg [0, 1, 2, 5, 6, 7, 3, 4, 8, 9, 10, 11] [.op (some 3) (.c (.mv (.t 0))),
   .op (some 4) (.c (.nilc (.t 3))),
   .op (some 5) (.c (.fldA 1 1 (.t 4))),
   .op (some 8) (.c (.mv (.t 0))),
   .op (some 9) (.c (.nilc (.t 8))),
   .op (some 10) (.c (.fldA 1 1 (.t 9))),
   .op (some 6) (.c (.ld 1 false (.t 5))),
   .op (some 7) (.c (.usd (.t 6))),
   .op (some 11) (.c (.ld 1 false (.t 10))),
   .op (some 12) (.c (.lenL (.t 11))),
   .op (some 13) (.ustr 5 (.t 7) (.t 12)),
   .op (some 2) (.c (.mv (.t 13)))] [2] [])
 (.ret))
theorem ok116 : fnOk Tryz.prog 116 1 ir116 [.t 2] = true := by kernel_rfl
def ir118_l0 : S := .seq (.seq (.rg [] [.op (some 10) (.c (.mv (.t 5))),
   .op (some 11) (.c (.mv (.t 0))),
   .op (some 12) (.c (.nilc (.t 11))),
   .op (some 13) (.c (.fldA 0 0 (.t 12))),
   .op (some 14) (.c (.ld 1 false (.t 13))),
   .op (some 15) (.c (.lenS (.t 14))),
   .op (some 16) (.c (.bin .lss (.t 10) (.t 15))),
   .op (some 17) (.c (.mv (.t 16))),
   .gop 17 true (some 18) (.c (.mv (.t 1))),
   .gop 17 true (some 19) (.c (.mv (.t 0))),
   .gop 17 true (some 20) (.c (.nilc (.t 19))),
   .gop 17 true (some 21) (.c (.fldA 0 0 (.t 20))),
   .gop 17 true (some 22) (.c (.ld 1 false (.t 21))),
   .gop 17 true (some 23) (.c (.mv (.t 5))),
   .gop 17 true (some 24) (.c (.idx (.t 22) (.t 23))),
   .gop 17 true (some 25) (.callv (.t 18) [(.t 24)]),
   .op (some 26) (.c (.pick (.t 17) (.t 25) (.bool false)))] [0, 1, 5, 26] [])
 (.cond (.t 26) (.skip) (.exit 0)))
 (.block 1 (.rg [] [.op (some 27) (.c (.mv (.t 5))),
   .op (some 28) (.c (.bin .add (.t 27) (.int .i64 1))),
   .op (some 5) (.c (.mv (.t 28)))] [0, 1, 5] []))
def ir118 : S := .seq (.rg [] [.op (some 4) (.c (.mv (.str [])))] [0, 1] [])
 (.seq (.rg [] [.op (some 6) (.c (.mv (.t 0))),
   .op (some 7) (.c (.nilc (.t 6))),
   .op (some 8) (.c (.fldA 1 1 (.t 7))),
   .op (some 9) (.c (.ld 1 false (.t 8))),
   .op (some 5) (.c (.mv (.t 9)))] [0, 1, 5] [])
 (.seq (.block 0 (.loop [0, 1, 5] ir118_l0))
 (.seq (.rg [0, 1, 2, 4, 5, 6, 8, 3, 7, 9, 10] [.op (some 29) (.c (.mv (.t 0))),
   .op (some 30) (.c (.nilc (.t 29))),
   .op (some 31) (.c (.fldA 0 0 (.t 30))),
   .op (some 33) (.c (.mv (.t 0))),
   .op (some 34) (.c (.nilc (.t 33))),
   .op (some 35) (.c (.fldA 1 1 (.t 34))),
   .op (some 37) (.c (.mv (.t 5))),
   .op (some 32) (.c (.ld 1 false (.t 31))),
   .op (some 36) (.c (.ld 1 false (.t 35))),
   .op (some 38) (.c (.slcS (.t 32) (some (.t 36)) (some (.t 37)))),
   .op (some 4) (.c (.mv (.t 38)))] [4] [])
 (.ret))))
theorem ok118 : fnOk Tryz.prog 118 2 ir118 [.t 4] = true := by kernel_rfl
def ir119 : S := .seq (.rg [] [.op (some 3) (.c (.mv (.bool false)))] [0, 1] [])
 (.seq (.rg [] [.op (some 4) (.c (.ld 1 false (.t 1))),
   .op (some 5) (.c (.mv (.t 0))),
   .op (some 6) (.c (.nilc (.t 4))),
   .op (some 7) (.c (.fldA 2 2 (.t 6))),
   .op (some 8) (.c (.idxP 256 1 (.t 7) (.t 5))),
   .op (some 9) (.c (.ld 1 false (.t 8))),
   .op (some 10) (.c (.bin .eql (.t 9) (.int .i64 2))),
   .op (some 11) (.c (.mv (.t 10))),
   .gop 11 false (some 12) (.c (.ld 1 false (.t 1))),
   .gop 11 false (some 13) (.c (.mv (.t 0))),
   .gop 11 false (some 14) (.c (.nilc (.t 12))),
   .gop 11 false (some 15) (.c (.fldA 2 2 (.t 14))),
   .gop 11 false (some 16) (.c (.idxP 256 1 (.t 15) (.t 13))),
   .gop 11 false (some 17) (.c (.ld 1 false (.t 16))),
   .gop 11 false (some 18) (.c (.bin .eql (.t 17) (.int .i64 3))),
   .op (some 19) (.c (.pick (.t 11) (.bool true) (.t 18))),
   .op (some 20) (.c (.mv (.t 19))),
   .gop 20 false (some 21) (.c (.mv (.t 0))),
   .gop 20 false (some 22) (.c (.bin .eql (.t 21) (.int .u8 95))),
   .op (some 23) (.c (.pick (.t 20) (.bool true) (.t 22))),
   .op (some 3) (.c (.mv (.t 23)))] [3] [])
 (.ret))
theorem ok119 : fnOk Tryz.prog 119 2 ir119 [.t 3] = true := by kernel_rfl
def ir120 : S := .seq (.rg [] [.op (some 4) (.box 44 (.t 1))] [0, 2, 4] [])
 (.seq (.rg [] [.op (some 6) (.c (.mv (.t 0))),
   .op (some 7) (.c (.nilc (.t 6))),
   .op (some 8) (.c (.fldA 1 1 (.t 7))),
   .op (some 9) (.c (.ld 1 false (.t 8))),
   .op (some 10) (.c (.fldA 3 3 (.t 4))),
   .op none (.st 1 (.t 10) (.t 9))] [0, 2, 4] [])
 (.seq (.rg [0, 1, 2, 3, 4, 5, 6, 7, 8, 9, 10] [.op (some 11) (.c (.mv (.t 0))),
   .op (some 12) (.c (.mv (.t 0))),
   .op (some 13) (.c (.nilc (.t 12))),
   .op (some 14) (.c (.fldA 3 258 (.t 13))),
   .op (some 15) (.c (.ld 1 false (.t 14))),
   .op (some 16) (.c (.ld 4 true (.t 4))),
   .op (some 17) (.bls 4 [.agg [.int .i64 0, .str [], .int .i64 0, .int .i64 0]] [(0, (.t 16))]),
   .op (some 18) (.app 44 4 40 (.t 15) (.t 17)),
   .op (some 19) (.c (.nilc (.t 11))),
   .op (some 20) (.c (.fldA 3 258 (.t 19))),
   .op none (.st 1 (.t 20) (.t 18))] [0, 2] [])
 (.rg [] [.op (some 21) (.c (.mv (.t 0))),
   .op (some 22) (.c (.nilc (.t 21))),
   .op (some 23) (.c (.fldA 1 1 (.t 22))),
   .op (some 24) (.c (.ld 1 false (.t 23))),
   .op (some 25) (.c (.mv (.t 2))),
   .op (some 26) (.c (.bin .add (.t 24) (.t 25))),
   .op (some 27) (.c (.nilc (.t 21))),
   .op (some 28) (.c (.fldA 1 1 (.t 27))),
   .op none (.st 1 (.t 28) (.t 26))] [] [])))
theorem ok120 : fnOk Tryz.prog 120 3 ir120 [] = true := by kernel_rfl
def ir121 : S := .seq (.rg [] [.op (some 3) (.c (.mv (.bool false)))] [0, 1] [])
 (.seq (.rg [] [.op (some 4) (.c (.ld 1 false (.t 1))),
   .op (some 5) (.c (.mv (.t 0))),
   .op (some 6) (.c (.nilc (.t 4))),
   .op (some 7) (.c (.fldA 2 2 (.t 6))),
   .op (some 8) (.c (.idxP 256 1 (.t 7) (.t 5))),
   .op (some 9) (.c (.ld 1 false (.t 8))),
   .op (some 10) (.c (.bin .eql (.t 9) (.int .i64 3))),
   .op (some 3) (.c (.mv (.t 10)))] [3] [])
 (.ret))
theorem ok121 : fnOk Tryz.prog 121 2 ir121 [.t 3] = true := by kernel_rfl
def ir122 : S := .seq (.rg [] [.op (some 4) (.c (.mv (.bool false)))] [0, 1] [])
 (.seq (.rg [] [.op (some 5) (.c (.mv (.t 0))),
   .op (some 6) (.c (.mv (.t 1))),
   .op (some 7) (.pcall 173 [(.t 5), (.t 6)]),
   .op (some 4) (.c (.mv (.t 7)))] [4] [])
 (.ret))
theorem ok122 : fnOk Tryz.prog 122 2 ir122 [.t 4] = true := by kernel_rfl
def ir123 : S := .seq (.rg [] [.op (some 2) (.c (.mv (.bool false)))] [0] [])
 (.seq (.rg [] [.op (some 3) (.c (.mv (.t 0))),
   .op (some 4) (.c (.bin .neq (.t 3) (.int .u8 10))),
   .op (some 2) (.c (.mv (.t 4)))] [2] [])
 (.ret))
theorem ok123 : fnOk Tryz.prog 123 1 ir123 [.t 2] = true := by kernel_rfl
def ir173 : S := .seq (.rg [] [.op (some 4) (.c (.mv (.bool false)))] [0, 1] [])
 (.seq (.rg [] [.op (some 5) (.c (.mv (.t 0))),
   .op (some 6) (.c (.lenS (.t 5))),
   .op (some 7) (.c (.mv (.t 1))),
   .op (some 8) (.c (.lenS (.t 7))),
   .op (some 9) (.c (.bin .geq (.t 6) (.t 8))),
   .op (some 10) (.c (.mv (.t 9))),
   .gop 10 true (some 11) (.c (.mv (.t 0))),
   .gop 10 true (some 12) (.c (.mv (.t 1))),
   .gop 10 true (some 13) (.c (.lenS (.t 12))),
   .gop 10 true (some 14) (.c (.slcS (.t 11) none (some (.t 13)))),
   .gop 10 true (some 15) (.c (.mv (.t 1))),
   .gop 10 true (some 16) (.c (.bin .eql (.t 14) (.t 15))),
   .op (some 17) (.c (.pick (.t 10) (.t 16) (.bool false))),
   .op (some 4) (.c (.mv (.t 17)))] [4] [])
 (.ret))
theorem ok173 : fnOk Tryz.prog 173 2 ir173 [.t 4] = true := by kernel_rfl
end Go.Proofs.YtanpgmgkmfckaaaGreatDoor
/- The same statements with their regions folded into expressions, printed by the fold itself; that they are that is checked by the kernel. No condition. -/
namespace Go.Proofs.YtanpgmgkmfckaaaGreatDoor
open Go Go.Ab
set_option maxRecDepth 100000
def lt15_l0 : S2 := .seq (.seq (.rg [] [(0, (.a (.t 0))), (2, (.a (.t 2))), (3, (.a (.t 3))), (4, (.a (.t 4))), (5, (.a (.t 5))), (6, (.a (.t 6))), (32, (.b (.bin .lss (.t 0) (.t 1)) (.u (.ld 1 false (.t 0)) (.u (.fldA 1 1 (.t 0)) (.u (.nilc (.t 0)) (.a (.t 5))))) (.u (.lenS (.t 0)) (.a (.t 0)))))] [2, 3, 4])
 (.cond (.t 32) (.skip) (.exit 0)))
 (.block 1 (.rg [.chk [] (.u (.ld 1 false (.t 0)) (.b (.idxP 5 1 (.t 0) (.t 1)) (.a (.t 6)) (.u (.ld 1 false (.t 0)) (.b (.idxP 256 1 (.t 0) (.t 1)) (.u (.fldA 2 2 (.t 0)) (.u (.nilc (.t 0)) (.a (.t 5)))) (.b (.idx (.t 0) (.t 1)) (.a (.t 0)) (.u (.ld 1 false (.t 0)) (.u (.fldA 1 1 (.t 0)) (.u (.nilc (.t 0)) (.a (.t 5)))))))))), .lt 45 [] (.u (.ld 1 false (.t 0)) (.b (.idxP 5 1 (.t 0) (.t 1)) (.a (.t 6)) (.u (.ld 1 false (.t 0)) (.b (.idxP 256 1 (.t 0) (.t 1)) (.u (.fldA 2 2 (.t 0)) (.u (.nilc (.t 0)) (.a (.t 5)))) (.b (.idx (.t 0) (.t 1)) (.a (.t 0)) (.u (.ld 1 false (.t 0)) (.u (.fldA 1 1 (.t 0)) (.u (.nilc (.t 0)) (.a (.t 5)))))))))), .op (some 46) (.callv (.t 45) [])] [(0, (.a (.t 0))), (2, (.a (.t 2))), (3, (.a (.t 3))), (4, (.a (.t 4))), (5, (.a (.t 5))), (6, (.a (.t 6)))] [2, 3, 4]))
def lt15 : FS2 := .pre (.rg [.op (some 2) (.alloc 40 .nils), .op (some 3) (.alloc 3 (.int .i64 0)), .op (some 4) (.alloc 31 (.int .i64 0))] [(0, (.a (.t 0))), (2, (.a (.t 2))), (3, (.a (.t 3))), (4, (.a (.t 4)))] [])
 (.pre (.seq (.rg [] [(0, (.a (.t 0))), (2, (.a (.t 2))), (3, (.a (.t 3))), (4, (.a (.t 4))), (9, (.b (.bin .gtr (.t 0) (.t 1)) (.u (.lenS (.t 0)) (.a (.t 0))) (.a (.int .i64 65536))))] [])
 (.cond (.t 9) (.seq (.rg [.op none (.st 1 (.t 2) .nils), .op none (.st 1 (.t 3) (.int .i64 0)), .op none (.st 1 (.t 4) (.int .i64 2))] [(2, (.a (.t 2))), (3, (.a (.t 3))), (4, (.a (.t 4)))] [])
 (.ret)) (.skip)))
 (.dfr [.op (some 10) (.c (.mkf 41 [] [(.t 2), (.t 3), (.t 4)]))] [(0, (.a (.t 0))), (2, (.a (.t 2))), (3, (.a (.t 3))), (4, (.a (.t 4))), (10, (.a (.t 10)))] 10
 (.seq (.rg [.op (some 12) (.pcall 42 []), .lt 11 [] (.a (.t 0)), .op (some 13) (.c (.bld [(.str []), (.int .i64 0), (.agg (List.replicate 256 (.int .i64 0))), .nils] [(0, (.t 11)), (2, (.t 12))])), .op (some 14) (.box 119 (.t 13)), .op (some 5) (.mvg 44 4 (.t 14) (.t 14) [3])] [(0, (.a (.t 0))), (2, (.a (.t 2))), (3, (.a (.t 3))), (4, (.a (.t 4))), (5, (.a (.t 5)))] [2, 3, 4])
 (.seq (.rg [.lt 15 [] (.a (.t 5)), .op (some 16) (.c (.mkf 43 [(.t 15)] [])), .lt 17 [] (.a (.t 5)), .op (some 18) (.c (.mkf 44 [(.t 17)] [])), .lt 19 [] (.a (.t 5)), .op (some 20) (.c (.mkf 45 [(.t 19)] [])), .lt 21 [] (.a (.t 5)), .op (some 22) (.c (.mkf 46 [(.t 21)] [])), .lt 23 [] (.a (.t 5)), .op (some 24) (.c (.mkf 47 [(.t 23)] [])), .op (some 25) (.c (.bld [.nilf, .nilf, .nilf, .nilf, .nilf] [(0, (.t 16)), (1, (.t 18)), (2, (.t 20)), (3, (.t 22)), (4, (.t 24))])), .op (some 6) (.alloc 120 (.agg [.nilf, .nilf, .nilf, .nilf, .nilf])), .op none (.st 5 (.t 6) (.t 25))] [(0, (.a (.t 0))), (2, (.a (.t 2))), (3, (.a (.t 3))), (4, (.a (.t 4))), (5, (.a (.t 5))), (6, (.a (.t 6)))] [2, 3, 4])
 (.seq (.block 0 (.loop [0, 2, 3, 4, 5, 6] lt15_l0))
 (.seq (.rg [.chk [] (.u (.ld 1 false (.t 0)) (.u (.fldA 3 258 (.t 0)) (.u (.nilc (.t 0)) (.a (.t 5))))), .lt 50 [] (.u (.ld 1 false (.t 0)) (.u (.fldA 3 258 (.t 0)) (.u (.nilc (.t 0)) (.a (.t 5))))), .op none (.st 1 (.t 2) (.t 50)), .op none (.st 1 (.t 3) (.int .i64 0)), .op none (.st 1 (.t 4) (.int .i64 0))] [(2, (.a (.t 2))), (3, (.a (.t 3))), (4, (.a (.t 4)))] [2, 3, 4])
 (.ret)))))))
theorem lf15 : ir15.lift [] = some lt15 := by kernel_rfl
def lt38_s0 : S2 := .rg [] [(4, (.a (.t 4))), (7, (.a (.t 7))), (8, (.a (.t 8))), (9, (.b (.bin .add (.t 0) (.t 1)) (.a (.t 9)) (.a (.int .i64 1))))] []
def lt38_s1 : S2 := .seq (.rg [] [(4, (.a (.t 4))), (6, (.a (.t 6))), (7, (.a (.t 7))), (8, (.a (.t 8))), (9, (.a (.t 9))), (22, (.b (.bin .eql (.t 0) (.t 1)) (.u (.ld 1 false (.t 0)) (.u (.fldA 0 0 (.t 0)) (.a (.t 6)))) (.a (.int .i64 2))))] [])
 (.cond (.t 22) (.rg [.chk [] (.u (.ld 1 false (.t 0)) (.u (.fldA 2 2 (.t 0)) (.a (.t 6)))), .lt 24 [] (.u (.ld 1 false (.t 0)) (.u (.fldA 2 2 (.t 0)) (.a (.t 6)))), .op (some 25) (.pcall 115 [(.t 24)]), .op (some 26) (.call 114 [(.t 4), (.t 25)])] [(4, (.a (.t 4))), (7, (.a (.t 7))), (8, (.a (.t 8))), (9, (.a (.t 9)))] []) (.rg [.chk [] (.u (.ld 1 false (.t 0)) (.u (.fldA 1 1 (.t 0)) (.a (.t 6)))), .lt 28 [] (.u (.ld 1 false (.t 0)) (.u (.fldA 1 1 (.t 0)) (.a (.t 6)))), .op (some 29) (.call 114 [(.t 4), (.t 28)])] [(4, (.a (.t 4))), (7, (.a (.t 7))), (8, (.a (.t 8))), (9, (.a (.t 9)))] []))
def lt38_l2 : S2 := .seq (.rg [] [(4, (.a (.t 4))), (7, (.a (.t 7))), (8, (.a (.t 8))), (9, (.a (.t 9))), (10, (.b (.bin .lss (.t 0) (.t 1)) (.a (.t 9)) (.a (.t 8))))] [])
 (.seq (.cond (.t 10) (.skip) (.exit 0))
 (.seq (.block 1 (.seq (.rg [.chk [] (.u (.ld 4 true (.t 0)) (.b (.idxA 4 (.t 0) (.t 1)) (.a (.t 7)) (.a (.t 9)))), .lt 13 [] (.u (.ld 4 true (.t 0)) (.b (.idxA 4 (.t 0) (.t 1)) (.a (.t 7)) (.a (.t 9)))), .op (some 6) (.alloc 44 (.agg [(.int .i64 0), (.str []), (.int .i64 0), (.int .i64 0)])), .op none (.st 4 (.t 6) (.t 13))] [(4, (.a (.t 4))), (5, (.a (.t 9))), (6, (.a (.t 6))), (7, (.a (.t 7))), (8, (.a (.t 8))), (9, (.a (.t 9)))] [])
 (.seq (.seq (.rg [.chk [] (.u (.ld 4 true (.t 0)) (.a (.t 6))), .lt 14 [] (.u (.ld 4 true (.t 0)) (.a (.t 6))), .op (some 15) (.pcall 112 [(.t 14)])] [(4, (.a (.t 4))), (5, (.a (.t 5))), (6, (.a (.t 6))), (7, (.a (.t 7))), (8, (.a (.t 8))), (9, (.a (.t 9))), (16, (.u (.not (.t 0)) (.a (.t 15))))] [])
 (.cond (.t 16) (.seq (.rg [] [(2, (.a (.str []))), (3, (.a (.int .i64 90)))] [])
 (.ret)) (.skip)))
 (.seq (.seq (.rg [] [(4, (.a (.t 4))), (6, (.a (.t 6))), (7, (.a (.t 7))), (8, (.a (.t 8))), (9, (.a (.t 9))), (18, (.b (.bin .gtr (.t 0) (.t 1)) (.a (.t 5)) (.a (.int .i64 0))))] [])
 (.cond (.t 18) (.rg [.op (some 19) (.call 113 [(.t 4), (.int .u8 32)])] [(4, (.a (.t 4))), (6, (.a (.t 6))), (7, (.a (.t 7))), (8, (.a (.t 8))), (9, (.a (.t 9)))] []) (.skip)))
 (lt38_s1)))))
 (lt38_s0)))
def lt38 : S2 := .seq (.rg [] [(0, (.a (.t 0)))] [])
 (.seq (.rg [.op (some 4) (.alloc 184 (.agg [.nilp, .nils]))] [(0, (.a (.t 0))), (4, (.a (.t 4)))] [])
 (.seq (.seq (.rg [] [(4, (.a (.t 4))), (7, (.a (.t 0))), (8, (.u (.lenL (.t 0)) (.a (.t 0)))), (9, (.a (.int .i64 0)))] [])
 (.block 0 (.loop [4, 7, 8, 9] lt38_l2)))
 (.seq (.rg [.op (some 31) (.call 116 [(.t 4)])] [(2, (.a (.t 31))), (3, (.a (.int .i64 0)))] [])
 (.ret))))
theorem lf38 : ir38.lift [] = some lt38 := by kernel_rfl
def lt41_s0 : S2 := .rg [.op none (.st 1 (.t 0) .nils), .lt 17 [] (.a (.t 4)), .op none (.st 1 (.t 1) (.t 17)), .op none (.st 1 (.t 2) (.int .i64 90))] [] []
def lt41_r : List It2 := []
def lt41_k : List (Nat × E) := [(0, (.a (.t 0))), (1, (.a (.t 1))), (2, (.a (.t 2))), (3, (.a (.t 6)))]
theorem lr41 : liftR [] ir41_k [] ir41_r [] [] [] = some (lt41_r, lt41_k) := by kernel_rfl
def lt41 : S2 := .seq (.rg [] [(0, (.a (.t 0))), (1, (.a (.t 1))), (2, (.a (.t 2))), (3, (.a (.t 3))), (8, (.u (.isnil false (.t 0)) (.a (.t 3))))] [])
 (.cond (.t 8) (.seq (.rg [] [(0, (.a (.t 0))), (1, (.a (.t 1))), (2, (.a (.t 2))), (3, (.a (.t 3))), (4, (.u (.ext (.t 0) 0) (.u (.tas 113 (.int .i64 0) (.t 0)) (.a (.t 3))))), (5, (.u (.ext (.t 0) 1) (.u (.tas 113 (.int .i64 0) (.t 0)) (.a (.t 3)))))] [])
 (.seq (.seq (.rg [] [(0, (.a (.t 0))), (1, (.a (.t 1))), (2, (.a (.t 2))), (3, (.a (.t 3))), (4, (.a (.t 4))), (15, (.u (.not (.t 0)) (.a (.t 5))))] [])
 (.cond (.t 15) (.rg [.lt 16 [] (.a (.t 3)), .op none (.panic (.t 16))] [(0, (.a (.t 0))), (1, (.a (.t 1))), (2, (.a (.t 2))), (4, (.a (.t 4)))] []) (.skip)))
 (lt41_s0))) (.skip))
theorem lf41 : ir41.lift [] = some lt41 := by kernel_rfl
def lt42_l0 : S2 := .seq (.rg [] [(0, (.a (.t 0))), (35, (.a (.t 35))), (36, (.a (.t 36))), (37, (.a (.t 37))), (38, (.b (.bin .lss (.t 0) (.t 1)) (.a (.t 37)) (.a (.t 36))))] [])
 (.seq (.cond (.t 38) (.skip) (.exit 6))
 (.seq (.block 7 (.seq (.rg [] [(0, (.a (.t 0))), (6, (.u (.ld 1 false (.t 0)) (.b (.idxA 1 (.t 0) (.t 1)) (.a (.t 35)) (.a (.t 37))))), (35, (.a (.t 35))), (36, (.a (.t 36))), (37, (.a (.t 37)))] [])
 (.rg [.chk [] (.b (.idxP 256 1 (.t 0) (.t 1)) (.a (.t 0)) (.a (.t 6))), .lt 42 [] (.b (.idxP 256 1 (.t 0) (.t 1)) (.a (.t 0)) (.a (.t 6))), .op none (.st 1 (.t 42) (.int .i64 4))] [(0, (.a (.t 0))), (35, (.a (.t 35))), (36, (.a (.t 36))), (37, (.a (.t 37)))] [])))
 (.rg [] [(0, (.a (.t 0))), (35, (.a (.t 35))), (36, (.a (.t 36))), (37, (.b (.bin .add (.t 0) (.t 1)) (.a (.t 37)) (.a (.int .i64 1))))] [])))
def lt42_l1 : S2 := .seq (.rg [] [(0, (.a (.t 0))), (25, (.a (.t 25))), (26, (.a (.t 26))), (27, (.a (.t 27))), (28, (.b (.bin .lss (.t 0) (.t 1)) (.a (.t 27)) (.a (.t 26))))] [])
 (.seq (.cond (.t 28) (.skip) (.exit 4))
 (.seq (.block 5 (.seq (.rg [] [(0, (.a (.t 0))), (4, (.u (.ld 1 false (.t 0)) (.b (.idxA 1 (.t 0) (.t 1)) (.a (.t 25)) (.a (.t 27))))), (25, (.a (.t 25))), (26, (.a (.t 26))), (27, (.a (.t 27)))] [])
 (.rg [.chk [] (.b (.idxP 256 1 (.t 0) (.t 1)) (.a (.t 0)) (.a (.t 4))), .lt 32 [] (.b (.idxP 256 1 (.t 0) (.t 1)) (.a (.t 0)) (.a (.t 4))), .op none (.st 1 (.t 32) (.int .i64 1))] [(0, (.a (.t 0))), (25, (.a (.t 25))), (26, (.a (.t 26))), (27, (.a (.t 27)))] [])))
 (.rg [] [(0, (.a (.t 0))), (25, (.a (.t 25))), (26, (.a (.t 26))), (27, (.b (.bin .add (.t 0) (.t 1)) (.a (.t 27)) (.a (.int .i64 1))))] [])))
def lt42_l2 : S2 := .seq (.rg [] [(0, (.a (.t 0))), (17, (.a (.t 17))), (18, (.b (.bin .lss (.t 0) (.t 1)) (.a (.t 17)) (.a (.int .i64 10))))] [])
 (.seq (.cond (.t 18) (.skip) (.exit 2))
 (.seq (.block 3 (.seq (.rg [] [(0, (.a (.t 0))), (2, (.a (.t 17))), (17, (.a (.t 17)))] [])
 (.rg [.chk [] (.b (.idxP 256 1 (.t 0) (.t 1)) (.a (.t 0)) (.b (.bin .add (.t 0) (.t 1)) (.a (.int .i64 48)) (.a (.t 2)))), .lt 22 [] (.b (.idxP 256 1 (.t 0) (.t 1)) (.a (.t 0)) (.b (.bin .add (.t 0) (.t 1)) (.a (.int .i64 48)) (.a (.t 2)))), .op none (.st 1 (.t 22) (.int .i64 3))] [(0, (.a (.t 0))), (17, (.a (.t 17)))] [])))
 (.rg [] [(0, (.a (.t 0))), (17, (.b (.bin .add (.t 0) (.t 1)) (.a (.t 17)) (.a (.int .i64 1))))] [])))
def lt42_l3 : S2 := .seq (.rg [] [(0, (.a (.t 0))), (7, (.a (.t 7))), (8, (.b (.bin .lss (.t 0) (.t 1)) (.a (.t 7)) (.a (.int .i64 26))))] [])
 (.seq (.cond (.t 8) (.skip) (.exit 0))
 (.seq (.block 1 (.seq (.rg [] [(0, (.a (.t 0))), (1, (.a (.t 7))), (7, (.a (.t 7)))] [])
 (.rg [.chk [] (.b (.idxP 256 1 (.t 0) (.t 1)) (.a (.t 0)) (.b (.bin .add (.t 0) (.t 1)) (.a (.int .i64 65)) (.a (.t 1)))), .chk [] (.b (.bin .add (.t 0) (.t 1)) (.a (.int .i64 97)) (.a (.t 1))), .lt 14 [] (.b (.idxP 256 1 (.t 0) (.t 1)) (.a (.t 0)) (.b (.bin .add (.t 0) (.t 1)) (.a (.int .i64 65)) (.a (.t 1)))), .op none (.st 1 (.t 14) (.int .i64 2)), .chk [] (.b (.idxP 256 1 (.t 0) (.t 1)) (.a (.t 0)) (.b (.bin .add (.t 0) (.t 1)) (.a (.int .i64 97)) (.a (.t 1)))), .lt 15 [] (.b (.idxP 256 1 (.t 0) (.t 1)) (.a (.t 0)) (.b (.bin .add (.t 0) (.t 1)) (.a (.int .i64 97)) (.a (.t 1)))), .op none (.st 1 (.t 15) (.int .i64 2))] [(0, (.a (.t 0))), (7, (.a (.t 7)))] [])))
 (.rg [] [(0, (.a (.t 0))), (7, (.b (.bin .add (.t 0) (.t 1)) (.a (.t 7)) (.a (.int .i64 1))))] [])))
def lt42 : S2 := .seq (.rg [.op (some 0) (.alloc 116 (.agg (List.replicate 256 (.int .i64 0))))] [(0, (.a (.t 0)))] [])
 (.seq (.seq (.rg [] [(0, (.a (.t 0))), (7, (.a (.int .i64 0)))] [])
 (.block 0 (.loop [0, 7] lt42_l3)))
 (.seq (.seq (.rg [] [(0, (.a (.t 0))), (17, (.a (.int .i64 0)))] [])
 (.block 2 (.loop [0, 17] lt42_l2)))
 (.seq (.seq (.rg [.op (some 24) (.blo 5 1 [(.int .u8 0), (.int .u8 0), (.int .u8 0), (.int .u8 0)] [(0, (.int .u8 32)), (1, (.int .u8 9)), (2, (.int .u8 10)), (3, (.int .u8 13))]), .op (some 25) (.cvb (.t 24))] [(0, (.a (.t 0))), (25, (.a (.t 25))), (26, (.u (.lenL (.t 0)) (.a (.t 25)))), (27, (.a (.int .i64 0)))] [])
 (.block 4 (.loop [0, 25, 26, 27] lt42_l1)))
 (.seq (.seq (.rg [.op (some 34) (.blo 5 1 (List.replicate 15 (.int .u8 0)) [(0, (.int .u8 123)), (1, (.int .u8 125)), (2, (.int .u8 40)), (3, (.int .u8 41)), (4, (.int .u8 59)), (5, (.int .u8 44)), (6, (.int .u8 61)), (7, (.int .u8 35)), (8, (.int .u8 47)), (9, (.int .u8 60)), (10, (.int .u8 33)), (11, (.int .u8 45)), (12, (.int .u8 46)), (13, (.int .u8 58)), (14, (.int .u8 43))]), .op (some 35) (.cvb (.t 34))] [(0, (.a (.t 0))), (35, (.a (.t 35))), (36, (.u (.lenL (.t 0)) (.a (.t 35)))), (37, (.a (.int .i64 0)))] [])
 (.block 6 (.loop [0, 35, 36, 37] lt42_l0)))
 (.seq (.rg [.chk [] (.u (.ld 256 true (.t 0)) (.a (.t 0))), .lt 44 [] (.u (.ld 256 true (.t 0)) (.a (.t 0))), .op none (.st 256 (.t 0) (.t 44))] [(0, (.a (.t 0)))] [])
 (.ret))))))
theorem lf42 : ir42.lift [] = some lt42 := by kernel_rfl
def lt43 : S2 := .rg [.chk [] (.u (.mki 113 (.t 0)) (.u (.ld 1 false (.t 0)) (.u (.fldA 1 1 (.t 0)) (.u (.nilc (.t 0)) (.a (.t 0)))))), .lt 6 [] (.u (.mki 113 (.t 0)) (.u (.ld 1 false (.t 0)) (.u (.fldA 1 1 (.t 0)) (.u (.nilc (.t 0)) (.a (.t 0)))))), .op none (.panic (.t 6))] [] []
theorem lf43 : ir43.lift [] = some lt43 := by kernel_rfl
def lt44 : S2 := .rg [.chk [] (.u (.fldA 1 1 (.t 0)) (.u (.nilc (.t 0)) (.a (.t 0)))), .chk [] (.b (.bin .add (.t 0) (.t 1)) (.u (.ld 1 false (.t 0)) (.u (.fldA 1 1 (.t 0)) (.u (.nilc (.t 0)) (.a (.t 0))))) (.a (.int .i64 1))), .lt 8 [] (.u (.fldA 1 1 (.t 0)) (.u (.nilc (.t 0)) (.a (.t 0)))), .lt 6 [] (.b (.bin .add (.t 0) (.t 1)) (.u (.ld 1 false (.t 0)) (.u (.fldA 1 1 (.t 0)) (.u (.nilc (.t 0)) (.a (.t 0))))) (.a (.int .i64 1))), .op none (.st 1 (.t 8) (.t 6))] [] []
theorem lf44 : ir44.lift [] = some lt44 := by kernel_rfl
def lt45_s0 : S2 := .rg [.chk [] (.u (.ld 1 false (.t 0)) (.a (.t 1))), .lt 15 [] (.a (.t 2)), .lt 14 [] (.u (.ld 1 false (.t 0)) (.a (.t 1))), .op (some 16) (.c (.bld [(.int .i64 0), (.str []), (.int .i64 0), (.int .i64 0)] [(0, (.int .i64 1)), (1, (.t 15))])), .chk [] (.u (.lenS (.t 0)) (.a (.t 2))), .lt 18 [] (.u (.lenS (.t 0)) (.a (.t 2))), .op (some 19) (.call 120 [(.t 14), (.t 16), (.t 18)])] [] []
def lt45 : S2 := .seq (.rg [.op (some 1) (.box 115 (.t 0))] [(1, (.a (.t 1)))] [])
 (.seq (.rg [.chk [] (.u (.ld 1 false (.t 0)) (.a (.t 1))), .lt 3 [] (.u (.ld 1 false (.t 0)) (.a (.t 1))), .op (some 4) (.c (.mkf 119 [] [(.t 1)])), .op (some 5) (.pcall 118 [(.t 3), (.t 4)])] [(1, (.a (.t 1))), (2, (.a (.t 5)))] [])
 (.seq (.seq (.rg [] [(1, (.a (.t 1))), (2, (.a (.t 2))), (8, (.b (.bin .gtr (.t 0) (.t 1)) (.u (.lenS (.t 0)) (.a (.t 2))) (.a (.int .i64 32))))] [])
 (.cond (.t 8) (.rg [.chk [] (.u (.mki 113 (.t 0)) (.u (.ld 1 false (.t 0)) (.u (.fldA 1 1 (.t 0)) (.u (.nilc (.t 0)) (.u (.ld 1 false (.t 0)) (.a (.t 1))))))), .lt 13 [] (.u (.mki 113 (.t 0)) (.u (.ld 1 false (.t 0)) (.u (.fldA 1 1 (.t 0)) (.u (.nilc (.t 0)) (.u (.ld 1 false (.t 0)) (.a (.t 1))))))), .op none (.panic (.t 13))] [(1, (.a (.t 1))), (2, (.a (.t 2)))] []) (.skip)))
 (lt45_s0)))
theorem lf45 : ir45.lift [] = some lt45 := by kernel_rfl
def lt46_s0 : S2 := .rg [] [(1, (.a (.t 1))), (2, (.a (.t 2))), (3, (.a (.t 3))), (9, (.a (.t 9))), (10, (.b (.bin .add (.t 0) (.t 1)) (.a (.t 10)) (.a (.int .i64 1))))] []
def lt46_l1 : S2 := .seq (.rg [] [(1, (.a (.t 1))), (2, (.a (.t 2))), (3, (.a (.t 3))), (9, (.a (.t 9))), (10, (.a (.t 10))), (11, (.b (.bin .lss (.t 0) (.t 1)) (.a (.t 10)) (.a (.t 9))))] [])
 (.seq (.cond (.t 11) (.skip) (.exit 0))
 (.seq (.block 1 (.seq (.rg [] [(1, (.a (.t 1))), (2, (.a (.t 2))), (3, (.a (.t 3))), (4, (.a (.t 10))), (9, (.a (.t 9))), (10, (.a (.t 10)))] [])
 (.seq (.rg [] [(1, (.a (.t 1))), (2, (.a (.t 2))), (3, (.b (.bin .add (.t 0) (.t 1)) (.b (.bin .mul (.t 0) (.t 1)) (.a (.int .i64 10)) (.a (.t 3))) (.u (.cvi .i64 (.t 0)) (.b (.bin .sub (.t 0) (.t 1)) (.b (.idx (.t 0) (.t 1)) (.a (.t 2)) (.a (.t 4))) (.a (.int .u8 48)))))), (4, (.a (.t 4))), (9, (.a (.t 9))), (10, (.a (.t 10)))] [])
 (.seq (.rg [] [(1, (.a (.t 1))), (2, (.a (.t 2))), (3, (.a (.t 3))), (9, (.a (.t 9))), (10, (.a (.t 10))), (31, (.ite (.b (.bin .gtr (.t 0) (.t 1)) (.a (.t 3)) (.a (.int .i64 1099511627776))) (.a (.bool true)) (.ite (.b (.bin .gtr (.t 0) (.t 1)) (.a (.t 4)) (.a (.int .i64 0))) (.b (.bin .eql (.t 0) (.t 1)) (.b (.idx (.t 0) (.t 1)) (.a (.t 2)) (.a (.int .i64 0))) (.a (.int .u8 48))) (.a (.bool false)))))] [])
 (.cond (.t 31) (.rg [.chk [] (.u (.mki 113 (.t 0)) (.u (.ld 1 false (.t 0)) (.u (.fldA 1 1 (.t 0)) (.u (.nilc (.t 0)) (.u (.ld 1 false (.t 0)) (.a (.t 1))))))), .lt 36 [] (.u (.mki 113 (.t 0)) (.u (.ld 1 false (.t 0)) (.u (.fldA 1 1 (.t 0)) (.u (.nilc (.t 0)) (.u (.ld 1 false (.t 0)) (.a (.t 1))))))), .op none (.panic (.t 36))] [(1, (.a (.t 1))), (2, (.a (.t 2))), (3, (.a (.t 3))), (9, (.a (.t 9))), (10, (.a (.t 10)))] []) (.skip))))))
 (lt46_s0)))
def lt46 : S2 := .seq (.rg [.op (some 1) (.box 115 (.t 0))] [(1, (.a (.t 1)))] [])
 (.seq (.rg [.chk [] (.u (.ld 1 false (.t 0)) (.a (.t 1))), .lt 5 [] (.u (.ld 1 false (.t 0)) (.a (.t 1))), .op (some 6) (.c (.mkf 121 [] [(.t 1)])), .op (some 7) (.pcall 118 [(.t 5), (.t 6)])] [(1, (.a (.t 1))), (2, (.a (.t 7)))] [])
 (.seq (.rg [] [(1, (.a (.t 1))), (2, (.a (.t 2))), (3, (.a (.int .i64 0)))] [])
 (.seq (.seq (.rg [] [(1, (.a (.t 1))), (2, (.a (.t 2))), (3, (.a (.t 3))), (9, (.u (.lenS (.t 0)) (.a (.t 2)))), (10, (.a (.int .i64 0)))] [])
 (.block 0 (.loop [1, 2, 3, 9, 10] lt46_l1)))
 (.rg [.chk [] (.u (.ld 1 false (.t 0)) (.a (.t 1))), .lt 39 [] (.a (.t 3)), .lt 38 [] (.u (.ld 1 false (.t 0)) (.a (.t 1))), .op (some 40) (.c (.bld [(.int .i64 0), (.str []), (.int .i64 0), (.int .i64 0)] [(0, (.int .i64 2)), (2, (.t 39))])), .chk [] (.u (.lenS (.t 0)) (.a (.t 2))), .lt 42 [] (.u (.lenS (.t 0)) (.a (.t 2))), .op (some 43) (.call 120 [(.t 38), (.t 40), (.t 42)])] [] []))))
theorem lf46 : ir46.lift [] = some lt46 := by kernel_rfl
def lt47 : S2 := .seq (.seq (.rg [.chk [] (.b (.slcS (.t 0) (some (.t 1)) none) (.u (.ld 1 false (.t 0)) (.u (.fldA 0 0 (.t 0)) (.u (.nilc (.t 0)) (.a (.t 0))))) (.u (.ld 1 false (.t 0)) (.u (.fldA 1 1 (.t 0)) (.u (.nilc (.t 0)) (.a (.t 0)))))), .lt 10 [] (.b (.slcS (.t 0) (some (.t 1)) none) (.u (.ld 1 false (.t 0)) (.u (.fldA 0 0 (.t 0)) (.u (.nilc (.t 0)) (.a (.t 0))))) (.u (.ld 1 false (.t 0)) (.u (.fldA 1 1 (.t 0)) (.u (.nilc (.t 0)) (.a (.t 0)))))), .op (some 11) (.pcall 122 [(.t 10), (.str [47, 47])])] [(0, (.a (.t 0))), (11, (.a (.t 11)))] [])
 (.cond (.t 11) (.seq (.rg [.chk [] (.u (.ld 1 false (.t 0)) (.u (.fldA 1 1 (.t 0)) (.u (.nilc (.t 0)) (.a (.t 0))))), .lt 15 [] (.u (.ld 1 false (.t 0)) (.u (.fldA 1 1 (.t 0)) (.u (.nilc (.t 0)) (.a (.t 0))))), .lt 16 [] (.a (.t 0)), .op (some 17) (.pcall 118 [(.t 16), (.fn 123)]), .chk [] (.u (.fldA 1 1 (.t 0)) (.u (.nilc (.t 0)) (.a (.t 0)))), .chk [] (.b (.bin .add (.t 0) (.t 1)) (.a (.t 15)) (.u (.lenS (.t 0)) (.a (.t 17)))), .lt 21 [] (.u (.fldA 1 1 (.t 0)) (.u (.nilc (.t 0)) (.a (.t 0)))), .lt 19 [] (.b (.bin .add (.t 0) (.t 1)) (.a (.t 15)) (.u (.lenS (.t 0)) (.a (.t 17)))), .op none (.st 1 (.t 21) (.t 19))] [] [])
 (.ret)) (.skip)))
 (.rg [.chk [] (.t (.slcS (.t 0) (some (.t 1)) (some (.t 2))) (.u (.ld 1 false (.t 0)) (.u (.fldA 0 0 (.t 0)) (.u (.nilc (.t 0)) (.a (.t 0))))) (.u (.ld 1 false (.t 0)) (.u (.fldA 1 1 (.t 0)) (.u (.nilc (.t 0)) (.a (.t 0))))) (.b (.bin .add (.t 0) (.t 1)) (.u (.ld 1 false (.t 0)) (.u (.fldA 1 1 (.t 0)) (.u (.nilc (.t 0)) (.a (.t 0))))) (.a (.int .i64 1)))), .lt 36 [] (.t (.slcS (.t 0) (some (.t 1)) (some (.t 2))) (.u (.ld 1 false (.t 0)) (.u (.fldA 0 0 (.t 0)) (.u (.nilc (.t 0)) (.a (.t 0))))) (.u (.ld 1 false (.t 0)) (.u (.fldA 1 1 (.t 0)) (.u (.nilc (.t 0)) (.a (.t 0))))) (.b (.bin .add (.t 0) (.t 1)) (.u (.ld 1 false (.t 0)) (.u (.fldA 1 1 (.t 0)) (.u (.nilc (.t 0)) (.a (.t 0))))) (.a (.int .i64 1)))), .op (some 37) (.c (.bld [(.int .i64 0), (.str []), (.int .i64 0), (.int .i64 0)] [(0, (.int .i64 3)), (1, (.t 36))])), .lt 22 [] (.a (.t 0)), .op (some 38) (.call 120 [(.t 22), (.t 37), (.int .i64 1)])] [] [])
theorem lf47 : ir47.lift [] = some lt47 := by kernel_rfl
def lt100_l0 : S2 := .seq (.rg [] [(0, (.a (.t 0))), (14, (.a (.t 14))), (15, (.a (.t 15))), (16, (.b (.bin .lss (.t 0) (.t 1)) (.a (.t 15)) (.a (.t 14))))] [])
 (.seq (.cond (.t 16) (.skip) (.exit 0))
 (.seq (.block 1 (.seq (.rg [] [(0, (.a (.t 0))), (3, (.a (.t 15))), (14, (.a (.t 14))), (15, (.a (.t 15)))] [])
 (.seq (.rg [] [(0, (.a (.t 0))), (3, (.a (.t 3))), (4, (.b (.idx (.t 0) (.t 1)) (.a (.t 0)) (.a (.t 3)))), (14, (.a (.t 14))), (15, (.a (.t 15)))] [])
 (.seq (.rg [] [(0, (.a (.t 0))), (3, (.a (.t 3))), (4, (.a (.t 4))), (5, (.ite (.ite (.b (.bin .geq (.t 0) (.t 1)) (.a (.t 4)) (.a (.int .u8 65))) (.b (.bin .leq (.t 0) (.t 1)) (.a (.t 4)) (.a (.int .u8 90))) (.a (.bool false))) (.a (.bool true)) (.ite (.b (.bin .geq (.t 0) (.t 1)) (.a (.t 4)) (.a (.int .u8 97))) (.b (.bin .leq (.t 0) (.t 1)) (.a (.t 4)) (.a (.int .u8 122))) (.a (.bool false))))), (14, (.a (.t 14))), (15, (.a (.t 15)))] [])
 (.seq (.rg [] [(0, (.a (.t 0))), (14, (.a (.t 14))), (15, (.a (.t 15))), (52, (.ite (.u (.not (.t 0)) (.a (.t 5))) (.ite (.b (.bin .eql (.t 0) (.t 1)) (.a (.t 3)) (.a (.int .i64 0))) (.a (.bool true)) (.ite (.b (.bin .neq (.t 0) (.t 1)) (.a (.t 4)) (.a (.int .u8 95))) (.ite (.b (.bin .lss (.t 0) (.t 1)) (.a (.t 4)) (.a (.int .u8 48))) (.a (.bool true)) (.b (.bin .gtr (.t 0) (.t 1)) (.a (.t 4)) (.a (.int .u8 57)))) (.a (.bool false)))) (.a (.bool false))))] [])
 (.cond (.t 52) (.seq (.rg [] [(2, (.a (.bool false)))] [])
 (.ret)) (.skip)))))))
 (.rg [] [(0, (.a (.t 0))), (14, (.a (.t 14))), (15, (.b (.bin .add (.t 0) (.t 1)) (.a (.t 15)) (.a (.int .i64 1))))] [])))
def lt100 : S2 := .seq (.rg [] [(0, (.a (.t 0)))] [])
 (.seq (.seq (.rg [] [(0, (.a (.t 0))), (12, (.ite (.b (.bin .eql (.t 0) (.t 1)) (.a (.t 0)) (.a (.str []))) (.a (.bool true)) (.b (.bin .gtr (.t 0) (.t 1)) (.u (.lenS (.t 0)) (.a (.t 0))) (.a (.int .i64 32)))))] [])
 (.cond (.t 12) (.seq (.rg [] [(2, (.a (.bool false)))] [])
 (.ret)) (.skip)))
 (.seq (.seq (.rg [] [(0, (.a (.t 0))), (14, (.u (.lenS (.t 0)) (.a (.t 0)))), (15, (.a (.int .i64 0)))] [])
 (.block 0 (.loop [0, 14, 15] lt100_l0)))
 (.seq (.rg [] [(2, (.a (.bool true)))] [])
 (.ret))))
theorem lf100 : ir100.lift [] = some lt100 := by kernel_rfl
def lt112 : S2 := .seq (.rg [.op (some 1) (.box 44 (.t 0))] [(1, (.a (.t 1)))] [])
 (.seq (.seq (.rg [] [(1, (.a (.t 1))), (4, (.u (.ld 1 false (.t 0)) (.u (.fldA 0 0 (.t 0)) (.a (.t 1)))))] [])
 (.block 0 (.seq (.rg [] [(1, (.a (.t 1))), (4, (.a (.t 4))), (5, (.b (.bin .eql (.t 0) (.t 1)) (.a (.t 4)) (.a (.int .i64 1))))] [])
 (.cond (.t 5) (.seq (.rg [] [(2, (.ite (.call 100 (.cons (.u (.ld 1 false (.t 0)) (.u (.fldA 1 1 (.t 0)) (.a (.t 1)))) .nil)) (.b (.bin .eql (.t 0) (.t 1)) (.u (.ld 1 false (.t 0)) (.u (.fldA 2 2 (.t 0)) (.a (.t 1)))) (.a (.int .i64 0))) (.a (.bool false))))] [])
 (.ret)) (.seq (.rg [] [(1, (.a (.t 1))), (4, (.a (.t 4))), (15, (.b (.bin .eql (.t 0) (.t 1)) (.a (.t 4)) (.a (.int .i64 2))))] [])
 (.cond (.t 15) (.seq (.rg [] [(2, (.ite (.ite (.b (.bin .eql (.t 0) (.t 1)) (.u (.ld 1 false (.t 0)) (.u (.fldA 1 1 (.t 0)) (.a (.t 1)))) (.a (.str []))) (.b (.bin .geq (.t 0) (.t 1)) (.u (.ld 1 false (.t 0)) (.u (.fldA 2 2 (.t 0)) (.a (.t 1)))) (.a (.int .i64 0))) (.a (.bool false))) (.b (.bin .leq (.t 0) (.t 1)) (.u (.ld 1 false (.t 0)) (.u (.fldA 2 2 (.t 0)) (.a (.t 1)))) (.a (.int .i64 1099511627776))) (.a (.bool false))))] [])
 (.ret)) (.seq (.rg [] [(1, (.a (.t 1))), (30, (.b (.bin .eql (.t 0) (.t 1)) (.a (.t 4)) (.a (.int .i64 3))))] [])
 (.cond (.t 30) (.seq (.rg [] [(2, (.ite (.ite (.b (.bin .eql (.t 0) (.t 1)) (.u (.lenS (.t 0)) (.u (.ld 1 false (.t 0)) (.u (.fldA 1 1 (.t 0)) (.a (.t 1))))) (.a (.int .i64 1))) (.call 170 (.cons (.a (.str [123, 125, 40, 41, 59, 44, 61, 35, 47, 60, 33, 45, 46, 58, 43])) (.cons (.u (.ld 1 false (.t 0)) (.u (.fldA 1 1 (.t 0)) (.a (.t 1)))) .nil))) (.a (.bool false))) (.b (.bin .eql (.t 0) (.t 1)) (.u (.ld 1 false (.t 0)) (.u (.fldA 2 2 (.t 0)) (.a (.t 1)))) (.a (.int .i64 0))) (.a (.bool false))))] [])
 (.ret)) (.skip)))))))))
 (.seq (.rg [] [(2, (.a (.bool false)))] [])
 (.ret)))
theorem lf112 : ir112.lift [100, 170] = some lt112 := by kernel_rfl
def lt113 : S2 := .seq (.rg [] [(0, (.a (.t 0))), (1, (.a (.t 1)))] [])
 (.seq (.rg [.lt 5 [] (.a (.t 0)), .op (some 6) (.call 171 [(.t 5)])] [(0, (.a (.t 0))), (1, (.a (.t 1)))] [])
 (.seq (.rg [.chk [] (.u (.ld 1 false (.t 0)) (.u (.fldA 1 1 (.t 0)) (.u (.nilc (.t 0)) (.a (.t 0))))), .lt 12 [] (.a (.t 1)), .lt 11 [] (.u (.ld 1 false (.t 0)) (.u (.fldA 1 1 (.t 0)) (.u (.nilc (.t 0)) (.a (.t 0))))), .op (some 13) (.bls 1 [(.int .u8 0)] [(0, (.t 12))]), .op (some 14) (.app 5 1 1 (.t 11) (.t 13)), .chk [] (.u (.fldA 1 1 (.t 0)) (.u (.nilc (.t 0)) (.a (.t 0)))), .lt 16 [] (.u (.fldA 1 1 (.t 0)) (.u (.nilc (.t 0)) (.a (.t 0)))), .op none (.st 1 (.t 16) (.t 14))] [] [])
 (.seq (.rg [] [(4, (.a .nili))] [])
 (.ret))))
theorem lf113 : ir113.lift [] = some lt113 := by kernel_rfl
def lt114 : S2 := .seq (.rg [] [(0, (.a (.t 0))), (1, (.a (.t 1)))] [])
 (.seq (.rg [.lt 6 [] (.a (.t 0)), .op (some 7) (.call 171 [(.t 6)])] [(0, (.a (.t 0))), (1, (.a (.t 1)))] [])
 (.seq (.rg [.chk [] (.u (.ld 1 false (.t 0)) (.u (.fldA 1 1 (.t 0)) (.u (.nilc (.t 0)) (.a (.t 0))))), .lt 13 [] (.a (.t 1)), .lt 12 [] (.u (.ld 1 false (.t 0)) (.u (.fldA 1 1 (.t 0)) (.u (.nilc (.t 0)) (.a (.t 0))))), .op (some 14) (.appS 5 1 (.t 12) (.t 13)), .chk [] (.u (.fldA 1 1 (.t 0)) (.u (.nilc (.t 0)) (.a (.t 0)))), .lt 16 [] (.u (.fldA 1 1 (.t 0)) (.u (.nilc (.t 0)) (.a (.t 0)))), .op none (.st 1 (.t 16) (.t 14))] [(1, (.a (.t 1)))] [])
 (.seq (.rg [] [(4, (.u (.lenS (.t 0)) (.a (.t 1)))), (5, (.a .nili))] [])
 (.ret))))
theorem lf114 : ir114.lift [] = some lt114 := by kernel_rfl
def lt116 : S2 := .seq (.rg [] [(0, (.a (.t 0)))] [])
 (.seq (.rg [.chk [] (.u (.lenL (.t 0)) (.u (.ld 1 false (.t 0)) (.u (.fldA 1 1 (.t 0)) (.u (.nilc (.t 0)) (.a (.t 0)))))), .chk [] (.u (.usd (.t 0)) (.u (.ld 1 false (.t 0)) (.u (.fldA 1 1 (.t 0)) (.u (.nilc (.t 0)) (.a (.t 0)))))), .lt 12 [] (.u (.lenL (.t 0)) (.u (.ld 1 false (.t 0)) (.u (.fldA 1 1 (.t 0)) (.u (.nilc (.t 0)) (.a (.t 0)))))), .lt 7 [] (.u (.usd (.t 0)) (.u (.ld 1 false (.t 0)) (.u (.fldA 1 1 (.t 0)) (.u (.nilc (.t 0)) (.a (.t 0)))))), .op (some 13) (.ustr 5 (.t 7) (.t 12))] [(2, (.a (.t 13)))] [])
 (.ret))
theorem lf116 : ir116.lift [] = some lt116 := by kernel_rfl
def lt118_l0 : S2 := .seq (.seq (.rg [.chk [((.b (.bin .lss (.t 0) (.t 1)) (.a (.t 5)) (.u (.lenS (.t 0)) (.u (.ld 1 false (.t 0)) (.u (.fldA 0 0 (.t 0)) (.u (.nilc (.t 0)) (.a (.t 0))))))), true)] (.b (.idx (.t 0) (.t 1)) (.u (.ld 1 false (.t 0)) (.u (.fldA 0 0 (.t 0)) (.u (.nilc (.t 0)) (.a (.t 0))))) (.a (.t 5))), .chk [] (.b (.bin .lss (.t 0) (.t 1)) (.a (.t 5)) (.u (.lenS (.t 0)) (.u (.ld 1 false (.t 0)) (.u (.fldA 0 0 (.t 0)) (.u (.nilc (.t 0)) (.a (.t 0))))))), .chk [] (.ite (.b (.bin .lss (.t 0) (.t 1)) (.a (.t 5)) (.u (.lenS (.t 0)) (.u (.ld 1 false (.t 0)) (.u (.fldA 0 0 (.t 0)) (.u (.nilc (.t 0)) (.a (.t 0))))))) (.a (.bool true)) (.a (.bool true))), .chk [] (.ite (.b (.bin .lss (.t 0) (.t 1)) (.a (.t 5)) (.u (.lenS (.t 0)) (.u (.ld 1 false (.t 0)) (.u (.fldA 0 0 (.t 0)) (.u (.nilc (.t 0)) (.a (.t 0))))))) (.a (.bool true)) (.a (.bool true))), .chk [] (.ite (.b (.bin .lss (.t 0) (.t 1)) (.a (.t 5)) (.u (.lenS (.t 0)) (.u (.ld 1 false (.t 0)) (.u (.fldA 0 0 (.t 0)) (.u (.nilc (.t 0)) (.a (.t 0))))))) (.a (.bool true)) (.a (.bool true))), .chk [] (.ite (.b (.bin .lss (.t 0) (.t 1)) (.a (.t 5)) (.u (.lenS (.t 0)) (.u (.ld 1 false (.t 0)) (.u (.fldA 0 0 (.t 0)) (.u (.nilc (.t 0)) (.a (.t 0))))))) (.a (.bool true)) (.a (.bool true))), .chk [] (.ite (.b (.bin .lss (.t 0) (.t 1)) (.a (.t 5)) (.u (.lenS (.t 0)) (.u (.ld 1 false (.t 0)) (.u (.fldA 0 0 (.t 0)) (.u (.nilc (.t 0)) (.a (.t 0))))))) (.a (.bool true)) (.a (.bool true))), .chk [] (.ite (.b (.bin .lss (.t 0) (.t 1)) (.a (.t 5)) (.u (.lenS (.t 0)) (.u (.ld 1 false (.t 0)) (.u (.fldA 0 0 (.t 0)) (.u (.nilc (.t 0)) (.a (.t 0))))))) (.a (.bool true)) (.a (.bool true))), .chk [] (.ite (.b (.bin .lss (.t 0) (.t 1)) (.a (.t 5)) (.u (.lenS (.t 0)) (.u (.ld 1 false (.t 0)) (.u (.fldA 0 0 (.t 0)) (.u (.nilc (.t 0)) (.a (.t 0))))))) (.a (.bool true)) (.a (.bool true))), .chk [] (.ite (.b (.bin .lss (.t 0) (.t 1)) (.a (.t 5)) (.u (.lenS (.t 0)) (.u (.ld 1 false (.t 0)) (.u (.fldA 0 0 (.t 0)) (.u (.nilc (.t 0)) (.a (.t 0))))))) (.a (.bool true)) (.a (.bool true))), .lt 24 [((.b (.bin .lss (.t 0) (.t 1)) (.a (.t 5)) (.u (.lenS (.t 0)) (.u (.ld 1 false (.t 0)) (.u (.fldA 0 0 (.t 0)) (.u (.nilc (.t 0)) (.a (.t 0))))))), true)] (.b (.idx (.t 0) (.t 1)) (.u (.ld 1 false (.t 0)) (.u (.fldA 0 0 (.t 0)) (.u (.nilc (.t 0)) (.a (.t 0))))) (.a (.t 5))), .lt 18 [((.b (.bin .lss (.t 0) (.t 1)) (.a (.t 5)) (.u (.lenS (.t 0)) (.u (.ld 1 false (.t 0)) (.u (.fldA 0 0 (.t 0)) (.u (.nilc (.t 0)) (.a (.t 0))))))), true)] (.a (.t 1)), .lt 17 [] (.b (.bin .lss (.t 0) (.t 1)) (.a (.t 5)) (.u (.lenS (.t 0)) (.u (.ld 1 false (.t 0)) (.u (.fldA 0 0 (.t 0)) (.u (.nilc (.t 0)) (.a (.t 0))))))), .gop [((.a (.t 17)), true)] (some 25) (.callv (.t 18) [(.t 24)])] [(0, (.a (.t 0))), (1, (.a (.t 1))), (5, (.a (.t 5))), (26, (.ite (.a (.t 17)) (.a (.t 25)) (.a (.bool false))))] [])
 (.cond (.t 26) (.skip) (.exit 0)))
 (.block 1 (.rg [] [(0, (.a (.t 0))), (1, (.a (.t 1))), (5, (.b (.bin .add (.t 0) (.t 1)) (.a (.t 5)) (.a (.int .i64 1))))] []))
def lt118 : S2 := .seq (.rg [] [(0, (.a (.t 0))), (1, (.a (.t 1)))] [])
 (.seq (.rg [] [(0, (.a (.t 0))), (1, (.a (.t 1))), (5, (.u (.ld 1 false (.t 0)) (.u (.fldA 1 1 (.t 0)) (.u (.nilc (.t 0)) (.a (.t 0))))))] [])
 (.seq (.block 0 (.loop [0, 1, 5] lt118_l0))
 (.seq (.rg [] [(4, (.t (.slcS (.t 0) (some (.t 1)) (some (.t 2))) (.u (.ld 1 false (.t 0)) (.u (.fldA 0 0 (.t 0)) (.u (.nilc (.t 0)) (.a (.t 0))))) (.u (.ld 1 false (.t 0)) (.u (.fldA 1 1 (.t 0)) (.u (.nilc (.t 0)) (.a (.t 0))))) (.a (.t 5))))] [])
 (.ret))))
theorem lf118 : ir118.lift [] = some lt118 := by kernel_rfl
def lt119 : S2 := .seq (.rg [] [(0, (.a (.t 0))), (1, (.a (.t 1)))] [])
 (.seq (.rg [] [(3, (.ite (.ite (.b (.bin .eql (.t 0) (.t 1)) (.u (.ld 1 false (.t 0)) (.b (.idxP 256 1 (.t 0) (.t 1)) (.u (.fldA 2 2 (.t 0)) (.u (.nilc (.t 0)) (.u (.ld 1 false (.t 0)) (.a (.t 1))))) (.a (.t 0)))) (.a (.int .i64 2))) (.a (.bool true)) (.b (.bin .eql (.t 0) (.t 1)) (.u (.ld 1 false (.t 0)) (.b (.idxP 256 1 (.t 0) (.t 1)) (.u (.fldA 2 2 (.t 0)) (.u (.nilc (.t 0)) (.u (.ld 1 false (.t 0)) (.a (.t 1))))) (.a (.t 0)))) (.a (.int .i64 3)))) (.a (.bool true)) (.b (.bin .eql (.t 0) (.t 1)) (.a (.t 0)) (.a (.int .u8 95)))))] [])
 (.ret))
theorem lf119 : ir119.lift [] = some lt119 := by kernel_rfl
def lt120 : S2 := .seq (.rg [.op (some 4) (.box 44 (.t 1))] [(0, (.a (.t 0))), (2, (.a (.t 2))), (4, (.a (.t 4)))] [])
 (.seq (.rg [.chk [] (.u (.fldA 3 3 (.t 0)) (.a (.t 4))), .chk [] (.u (.ld 1 false (.t 0)) (.u (.fldA 1 1 (.t 0)) (.u (.nilc (.t 0)) (.a (.t 0))))), .lt 10 [] (.u (.fldA 3 3 (.t 0)) (.a (.t 4))), .lt 9 [] (.u (.ld 1 false (.t 0)) (.u (.fldA 1 1 (.t 0)) (.u (.nilc (.t 0)) (.a (.t 0))))), .op none (.st 1 (.t 10) (.t 9))] [(0, (.a (.t 0))), (2, (.a (.t 2))), (4, (.a (.t 4)))] [])
 (.seq (.rg [.chk [] (.u (.ld 4 true (.t 0)) (.a (.t 4))), .chk [] (.u (.ld 1 false (.t 0)) (.u (.fldA 3 258 (.t 0)) (.u (.nilc (.t 0)) (.a (.t 0))))), .lt 16 [] (.u (.ld 4 true (.t 0)) (.a (.t 4))), .lt 15 [] (.u (.ld 1 false (.t 0)) (.u (.fldA 3 258 (.t 0)) (.u (.nilc (.t 0)) (.a (.t 0))))), .op (some 17) (.bls 4 [(.agg [(.int .i64 0), (.str []), (.int .i64 0), (.int .i64 0)])] [(0, (.t 16))]), .op (some 18) (.app 44 4 40 (.t 15) (.t 17)), .chk [] (.u (.fldA 3 258 (.t 0)) (.u (.nilc (.t 0)) (.a (.t 0)))), .lt 20 [] (.u (.fldA 3 258 (.t 0)) (.u (.nilc (.t 0)) (.a (.t 0)))), .op none (.st 1 (.t 20) (.t 18))] [(0, (.a (.t 0))), (2, (.a (.t 2)))] [])
 (.rg [.chk [] (.u (.fldA 1 1 (.t 0)) (.u (.nilc (.t 0)) (.a (.t 0)))), .chk [] (.b (.bin .add (.t 0) (.t 1)) (.u (.ld 1 false (.t 0)) (.u (.fldA 1 1 (.t 0)) (.u (.nilc (.t 0)) (.a (.t 0))))) (.a (.t 2))), .lt 28 [] (.u (.fldA 1 1 (.t 0)) (.u (.nilc (.t 0)) (.a (.t 0)))), .lt 26 [] (.b (.bin .add (.t 0) (.t 1)) (.u (.ld 1 false (.t 0)) (.u (.fldA 1 1 (.t 0)) (.u (.nilc (.t 0)) (.a (.t 0))))) (.a (.t 2))), .op none (.st 1 (.t 28) (.t 26))] [] [])))
theorem lf120 : ir120.lift [] = some lt120 := by kernel_rfl
def lt121 : S2 := .seq (.rg [] [(0, (.a (.t 0))), (1, (.a (.t 1)))] [])
 (.seq (.rg [] [(3, (.b (.bin .eql (.t 0) (.t 1)) (.u (.ld 1 false (.t 0)) (.b (.idxP 256 1 (.t 0) (.t 1)) (.u (.fldA 2 2 (.t 0)) (.u (.nilc (.t 0)) (.u (.ld 1 false (.t 0)) (.a (.t 1))))) (.a (.t 0)))) (.a (.int .i64 3))))] [])
 (.ret))
theorem lf121 : ir121.lift [] = some lt121 := by kernel_rfl
def lt122 : S2 := .seq (.rg [] [(0, (.a (.t 0))), (1, (.a (.t 1)))] [])
 (.seq (.rg [.lt 6 [] (.a (.t 1)), .lt 5 [] (.a (.t 0)), .op (some 7) (.pcall 173 [(.t 5), (.t 6)])] [(4, (.a (.t 7)))] [])
 (.ret))
theorem lf122 : ir122.lift [] = some lt122 := by kernel_rfl
def lt123 : S2 := .seq (.rg [] [(0, (.a (.t 0)))] [])
 (.seq (.rg [] [(2, (.b (.bin .neq (.t 0) (.t 1)) (.a (.t 0)) (.a (.int .u8 10))))] [])
 (.ret))
theorem lf123 : ir123.lift [] = some lt123 := by kernel_rfl
def lt173 : S2 := .seq (.rg [] [(0, (.a (.t 0))), (1, (.a (.t 1)))] [])
 (.seq (.rg [] [(4, (.ite (.b (.bin .geq (.t 0) (.t 1)) (.u (.lenS (.t 0)) (.a (.t 0))) (.u (.lenS (.t 0)) (.a (.t 1)))) (.b (.bin .eql (.t 0) (.t 1)) (.b (.slcS (.t 0) none (some (.t 1))) (.a (.t 0)) (.u (.lenS (.t 0)) (.a (.t 1)))) (.a (.t 1))) (.a (.bool false))))] [])
 (.ret))
theorem lf173 : ir173.lift [] = some lt173 := by kernel_rfl
end Go.Proofs.YtanpgmgkmfckaaaGreatDoor
/- Plain functions of the lexer: classes of bytes, names, numbers, tokens. No program. -/
namespace Go.Lx
open Go Go.Ab

structure Tok where
  kind : Int
  text : List UInt8
  n : Int
  at_ : Int
  deriving DecidableEq, Inhabited

def Tok.enc (t : Tok) : D := .agg [.int .i64 t.kind, .str t.text, .int .i64 t.n, .int .i64 t.at_]
def toks (l : List Tok) : D := .list 4 (l.map Tok.enc)

def letterI (c : Int) : Bool := decide (97 ≤ c ∧ c ≤ 122 ∨ 65 ≤ c ∧ c ≤ 90)
def digitI (c : Int) : Bool := decide (48 ≤ c ∧ c ≤ 57)
def spaceI (c : Int) : Bool := decide (c = 32 ∨ c = 9 ∨ c = 10 ∨ c = 13)
def partI (c : Int) : Bool := letterI c || digitI c || decide (c = 95)
def signs : List UInt8 := [123, 125, 40, 41, 59, 44, 61, 35, 47, 60, 33, 45, 46, 58, 43]
def signI (c : Int) : Bool := signs.any fun b => decide ((b.toNat : Int) = c)

def nameB (s : List UInt8) : Bool := decide (1 ≤ s.length ∧ s.length ≤ 32) && letterI (s.getD 0 0).toNat && s.all fun c => partI c.toNat

theorem all_iff {s : List UInt8} {p : UInt8 → Bool} : s.all p = true ↔ ∀ i, i < s.length → p (s.getD i 0) = true := by
  rw [List.all_eq_true]
  constructor
  · intro h i hi; simp [hi]; exact h _ (List.getElem_mem hi)
  · intro h x hx
    obtain ⟨i, hi, rfl⟩ := List.getElem_of_mem hx
    have := h i hi
    simpa [hi] using this
end Go.Lx
/- Contracts: classes of bytes and names, of the program and of the document. Condition: the program is the seat's. -/
namespace Go.Proofs.YtanpgmgkmfckaaaGreatDoor
open Go Go.Ab Go.Lx
theorem mixed : Tryz.prog.follows .mixedOrders = true := by kernel_rfl
set_option maxRecDepth 100000

def fnS (f : List UInt8 → Bool) : Ab.Fn := ⟨fun vs => match vs with | [.d (.str _)] => True | _ => False, fun vs => match vs with | [.d (.str s)] => .d (.bool (f s)) | _ => .any⟩
@[simp] theorem fnS_pre (f : List UInt8 → Bool) (s : List UInt8) : (fnS f).pre [.d (.str s)] = True := by simp only [fnS]
@[simp] theorem fnS_val (f : List UInt8 → Bool) (s : List UInt8) : (fnS f).val [.d (.str s)] = .d (.bool (f s)) := by simp only [fnS]
theorem fnS_of {P : Prg} {k : Nat} {f : List UInt8 → Bool} (h : ∀ s ob (K : V → Prop), K (.d (.bool (f s))) → PCall P k [.d (.str s)] ob K) : PFn P k (fnS f) := by
  intro vs hp ob K hK
  simp only [fnS] at hp hK
  split at hp
  · exact h _ _ _ hK
  · exact hp.elim

section
variable {P : Prg} (hP : P.p = Tryz.prog)
include hP
theorem c_Name : PFn P 100 (fnS nameB) := fnS_of fun s ob K h => by
  refine pcall_lift hP mixed (ds := [.str s]) ok100 lf100 TOk.nil ?_
  have h' : ∀ b, b = nameB s → K (.d (.bool b)) := fun b e => e ▸ h
  clear h
  simp [lt100]
  refine ⟨fun hne => h' _ ?_, fun h0 h1 => ?_⟩
  · rcases hne with rfl | h1
    · simp [nameB]
    · simp [nameB]; omega
  · have h0' : 1 ≤ s.length := by cases s with | nil => exact absurd rfl h0 | cons => simp
    refine ALoop.go (ι := Nat) (fun k => [(0, .d (.str s)), (14, .d (.int .i64 s.length)), (15, .d (.int .i64 k))]) (fun _ => []) (fun k => k ≤ s.length ∧ (∀ i, i < k → partI (s.getD i 0).toNat = true) ∧ (0 < k → letterI (s.getD 0 0).toNat = true)) (fun k => s.length - k) 0 ⟨by omega, by omega, by omega⟩ (by simp) rfl ?_
    rintro k ⟨hk, hp, hl⟩ R rn re rr _
    simp [lt100_l0]
    simp only [List.getD_eq_getElem?_getD] at hp hl rn
    refine ⟨fun hlt => ⟨hlt, fun e1 e2 e3 => rr _ _ ?_, fun e => rn [] (k + 1) _ _ ⟨by omega, fun i hi => ?_, fun _ => ?_⟩ (by omega) ?_ rfl rfl rfl⟩, fun hge => re _ _ _ ?_⟩
    · simp
      refine h' _ (Eq.symm ?_)
      rw [Bool.eq_false_iff]
      intro hn
      simp only [nameB, Bool.and_eq_true, all_iff, List.getD_eq_getElem?_getD] at hn
      have := hn.2 k hlt
      have h2 := hn.1.2
      rcases e3 with rfl | e3
      · simp [letterI] at h2; omega
      · simp [partI, letterI, digitI] at this; omega
    · by_cases hi' : i = k
      · subst hi'; simp [partI, letterI, digitI]; omega
      · exact hp i (by omega)
    · by_cases h2 : k = 0
      · subst h2; simp [letterI]; omega
      · exact hl (by omega)
    · simp; exact IntWalk.i64_in _ (by omega)
    · have hk' : k = s.length := by omega
      subst hk'
      simp
      refine h' _ (Eq.symm ?_)
      simp only [nameB, Bool.and_eq_true, all_iff, List.getD_eq_getElem?_getD]
      exact ⟨⟨by simp; omega, hl h0'⟩, hp⟩
end
end Go.Proofs.YtanpgmgkmfckaaaGreatDoor
/- Contracts: names, signs and numbers of the document. Condition: the program is the seat's. -/
namespace Go.Lx
open Go Go.Ab
def numGo : Int → List UInt8 → Option Int
  | n, [] => some n
  | n, c :: r => if 1099511627776 < 10 * n + (c.toNat - 48) then none else numGo (10 * n + (c.toNat - 48)) r
theorem numGo_drop {s : List UInt8} {k : Nat} {n : Int} (h : k < s.length) : numGo n (s.drop k) = if 1099511627776 < 10 * n + ((s[k]?.getD 0).toNat - 48) then none else numGo (10 * n + ((s[k]?.getD 0).toNat - 48)) (s.drop (k + 1)) := by
  rw [List.drop_eq_getElem_cons h]
  simp [numGo, h]
end Go.Lx
namespace Go.Proofs.YtanpgmgkmfckaaaGreatDoor
open Go Go.Ab Go.Lx
set_option maxRecDepth 100000
section
variable {P : Prg} (hP : P.p = Tryz.prog)
include hP
end
end Go.Proofs.YtanpgmgkmfckaaaGreatDoor
/- Slices of tokens. No program. -/
namespace Go.Lx
open Go Go.Ab
def TD (a : D) (l : List Tok) : Prop := a = toks l ∨ a = .nils ∧ l = []
section
variable {a : D} {l : List Tok} (h : TD a l)
include h
theorem TD.len : lenLV (.d a) = .d (.int .i64 l.length) := by rcases h with rfl | ⟨rfl, rfl⟩ <;> simp [toks]
theorem TD.lenS (ob : Objs) : lenLS ob (.d a) = True := by rcases h with rfl | ⟨rfl, rfl⟩ <;> simp [toks]
theorem TD.idxS (k : IntKind) (i : Int) : idxAS 4 (.d a) (.d (.int k i)) = (0 ≤ i ∧ i < l.length) := by
  rcases h with rfl | ⟨rfl, rfl⟩
  · simp [toks]
  · simp [idxAS, idxAK]
theorem TD.idx {k : IntKind} {i : Nat} (hi : i < l.length) : idxAV (.d a) (.d (.int k i)) = .d (.ref (l[i]?.getD default).enc) := by
  rcases h with rfl | ⟨rfl, rfl⟩
  · simp [toks, hi]
  · simp at hi
end
end Go.Lx
/- The lexer as a plain function of bytes. No program. -/
namespace Go.Lx
open Go Go.Ab

def letterB (c : UInt8) : Bool := letterI c.toNat
def digitB (c : UInt8) : Bool := digitI c.toNat
def spaceB (c : UInt8) : Bool := spaceI c.toNat
def partB (c : UInt8) : Bool := partI c.toNat
def signB (c : UInt8) : Bool := signI c.toNat
def lineB (c : UInt8) : Bool := c != 10

inductive St where
  | skip (n : Nat)
  | tok (k : Int) (t : List UInt8) (m : Int) (n : Nat)
  | err

def numOf (t : List UInt8) : Option Int := match numGo 0 t with
  | none => none
  | some n => if t.length = 1 ∨ t.headD 0 ≠ 48 then some n else none

def stp (c : UInt8) (r : List UInt8) : St :=
  if spaceB c then .skip 0
  else if c = 47 ∧ r.head? = some 47 then .skip (r.takeWhile lineB).length
  else if letterB c then
    if (r.takeWhile partB).length + 1 ≤ 32 then .tok 1 (c :: r.takeWhile partB) 0 (r.takeWhile partB).length else .err
  else if digitB c then
    match numOf (c :: r.takeWhile digitB) with
    | some n => .tok 2 [] n (r.takeWhile digitB).length
    | none => .err
  else if signB c then .tok 3 [c] 0 0 else .err

inductive Res where
  | ok (l : List Tok)
  | err (at_ : Nat)

def addT (t : Tok) : Res → Res
  | .ok l => .ok (t :: l)
  | .err e => .err e
def appT (l : List Tok) : Res → Res
  | .ok l' => .ok (l ++ l')
  | .err e => .err e

def lexR : List UInt8 → Nat → Res
  | [], _ => .ok []
  | c :: r, off => match stp c r with
    | .skip n => lexR (r.drop n) (off + n + 1)
    | .tok k t m n => addT ⟨k, t, m, off⟩ (lexR (r.drop n) (off + n + 1))
    | .err => .err off
termination_by l => l.length
decreasing_by all_goals (simp only [List.length_drop, List.length_cons]; omega)

def resV : Res → V
  | .ok l => .tup [.d (toks l), .d (.int .i64 0), .d (.int .i64 0)]
  | .err e => .tup [.d .nils, .d (.int .i64 e), .d (.int .i64 90)]
def lexV (s : List UInt8) : V := if s.length > 65536 then .tup [.d .nils, .d (.int .i64 0), .d (.int .i64 2)] else resV (lexR s 0)

theorem appT_nil (r : Res) : appT [] r = r := by cases r <;> rfl
theorem appT_add (l : List Tok) (t : Tok) (r : Res) : appT l (addT t r) = appT (l ++ [t]) r := by cases r <;> simp [appT, addT]

def tw (p : UInt8 → Bool) (s : List UInt8) (j : Nat) : Nat := ((s.drop j).takeWhile p).length
theorem tw_ge {p : UInt8 → Bool} {s : List UInt8} {j : Nat} (h : s.length ≤ j) : tw p s j = 0 := by simp [tw, List.drop_of_length_le h]
theorem tw_yes {p : UInt8 → Bool} {s : List UInt8} {j : Nat} (h : j < s.length) (hp : p (s[j]?.getD 0) = true) : tw p s j = tw p s (j + 1) + 1 := by
  simp [h] at hp
  unfold tw
  rw [List.drop_eq_getElem_cons h, List.takeWhile_cons, if_pos hp]; rfl
theorem tw_no {p : UInt8 → Bool} {s : List UInt8} {j : Nat} (h : j < s.length) (hp : p (s[j]?.getD 0) = false) : tw p s j = 0 := by
  simp [h] at hp
  unfold tw
  rw [List.drop_eq_getElem_cons h, List.takeWhile_cons, hp]; rfl
theorem tw_le (p : UInt8 → Bool) (s : List UInt8) (j : Nat) (h : j ≤ s.length) : j + tw p s j ≤ s.length := by
  have := (List.takeWhile_sublist p (l := s.drop j)).length_le
  simp [tw] at this ⊢; omega
theorem takeWhile_take (p : UInt8 → Bool) : ∀ l : List UInt8, l.takeWhile p = l.take (l.takeWhile p).length
  | [] => rfl
  | c :: r => by
    simp only [List.takeWhile_cons]
    split
    · simp; exact takeWhile_take p r
    · rfl
theorem mem_tw {p : UInt8 → Bool} {x : UInt8} : ∀ {l : List UInt8}, x ∈ l.takeWhile p → p x = true
  | c :: r, h => by
    rw [List.takeWhile_cons] at h
    split at h
    · rename_i hc
      rcases List.mem_cons.mp h with rfl | h
      · exact hc
      · exact mem_tw h
    · cases h
theorem drop_cons {s : List UInt8} {i : Nat} (h : i < s.length) : s.drop i = (s[i]?.getD 0) :: s.drop (i + 1) := by
  rw [List.drop_eq_getElem_cons h]; simp [h]
theorem tw_text (p : UInt8 → Bool) {s : List UInt8} {i : Nat} (h : i < s.length) (hp : p (s[i]?.getD 0) = true) :
    (s.take (i + tw p s i)).drop i = (s[i]?.getD 0) :: (s.drop (i + 1)).takeWhile p ∧ tw p s i = ((s.drop (i + 1)).takeWhile p).length + 1 := by
  have h1 : tw p s i = ((s.drop (i + 1)).takeWhile p).length + 1 := tw_yes h hp
  refine ⟨?_, h1⟩
  rw [List.drop_take, Nat.add_sub_cancel_left, h1, drop_cons h, List.take_succ_cons, ← takeWhile_take]

theorem lexR_nil {s : List UInt8} {i off : Nat} (h : s.length ≤ i) : lexR (s.drop i) off = .ok [] := by
  rw [List.drop_of_length_le h, lexR]
theorem lexR_at {s : List UInt8} {i : Nat} (h : i < s.length) : lexR (s.drop i) i = match stp (s[i]?.getD 0) (s.drop (i + 1)) with
    | .skip n => lexR (s.drop (i + n + 1)) (i + n + 1)
    | .tok k t m n => addT ⟨k, t, m, i⟩ (lexR (s.drop (i + n + 1)) (i + n + 1))
    | .err => .err i := by
  rw [drop_cons h, lexR]
  cases stp (s[i]?.getD 0) (s.drop (i + 1)) with
  | err => rfl
  | skip n => simp only [List.drop_drop]; congr 2; omega
  | tok k t m n => simp only [List.drop_drop]; congr 3; omega
theorem head_drop {s : List UInt8} {i : Nat} : (s.drop i).head? = s[i]? := by simp [List.head?_drop]
end Go.Lx
/- The parser of sources as plain functions of tokens. No program. -/
namespace Go.Sx
open Go Go.Ab Go.Lx
abbrev B := List UInt8
inductive R (α : Type) where
  | ok (a : α) (ts : List Tok)
  | err (ts : List Tok) (e : Int)
abbrev M (α : Type) := List Tok → R α
def M.bind {α β : Type} (m : M α) (f : α → M β) : M β := fun ts => match m ts with
  | .ok a ts' => f a ts'
  | .err ts' e => .err ts' e
def M.pure {α : Type} (a : α) : M α := fun ts => .ok a ts
instance : Monad M where
  pure := M.pure
  bind := M.bind
section
variable {α β : Type}
@[simp] theorem pure_eq (a : α) (ts : List Tok) : (pure a : M α) ts = .ok a ts := rfl
theorem bind_eq (m : M α) (f : α → M β) (ts : List Tok) : (m >>= f) ts = match m ts with
  | .ok a ts' => f a ts'
  | .err ts' e => .err ts' e := rfl
theorem massoc {γ : Type} (m : M α) (f : α → M β) (g : β → M γ) : ((m >>= f) >>= g) = (m >>= fun a => f a >>= g) := by
  funext ts
  simp only [bind_eq]
  cases m ts <;> rfl
theorem mpure (a : α) (f : α → M β) : ((pure a : M α) >>= f) = f a := rfl
def ifM (c : List Tok → Bool) (a b : M α) : M α := fun ts => if c ts then a ts else b ts
def fail (e : Int) : M α := fun ts => .err ts e
end
def nextB (k : Int) (t : B) : List Tok → Bool
  | [] => false
  | x :: _ => decide (x.kind = k) && (decide (t = []) || x.text == t)
def takeM (k : Int) (t : B) : M Tok := fun ts => if nextB k t ts then .ok (ts.headD default) ts.tail else .err ts 100
def nameM : M B := do let t ← takeM 1 []; pure t.text
def wordM (t : B) : M Unit := do let _ ← takeM 1 t; pure ()
def signM (t : B) : M Unit := do let _ ← takeM 3 t; pure ()
def acceptM (k : Int) (t : B) : M Bool := fun ts => if nextB k t ts then .ok true ts.tail else .ok false ts
def numberM (lo hi : Int) : M Int := fun ts => if nextB 2 [] ts && decide (lo ≤ (ts.headD default).n) && decide ((ts.headD default).n ≤ hi) then .ok (ts.headD default).n ts.tail else .err ts 100
theorem numberM_ok {lo hi n : Int} {ts ts' : List Tok} (h : numberM lo hi ts = .ok n ts') : lo ≤ n ∧ n ≤ hi := by
  simp only [numberM] at h
  split at h
  · rename_i hc
    simp only [Bool.and_eq_true, decide_eq_true_eq] at hc
    cases h
    exact ⟨hc.1.2, hc.2⟩
  · cases h
def roomM (many most : Nat) : M Unit := fun ts => if many = most then .err ts 2 else .ok () ts
def listM {α : Type} (begins : List Tok → Bool) (read : M α) : Nat → M (List α)
  | 0 => fun ts => if begins ts then .err ts 2 else .ok [] ts
  | n + 1 => fun ts => if begins ts then (do let a ← read; let l ← listM begins read n; pure (a :: l) : M (List α)) ts else .ok [] ts

inductive Term where
  | num (n : Int)
  | path (a b : B)
structure From where
  name : B
  kind : B
  of_ : Option (B × B)
structure Atom where
  op : Int
  a : Term
  b : Term
structure SetT where
  path : B
  term : Term
structure Move where
  to_ : B
  from_ : B
  shift : Int
structure Ref where
  name : B
  path : B
inductive TypeT where
  | num (lo hi : Int) (of_ : Option B)
  | date
  | person
  | choice (l : List B)
structure Field where
  name : B
  type : TypeT
  weights : List Int
structure Depend where
  names : List B
  name : B
structure UnitT where
  name : B
  of_ : Option (Int × B)
structure Schema where
  name : B
  by_ : B
  version : Int
  fields : List Field
  depends : List Depend
structure Rule where
  head : B
  froms : List From
  wheres : List Atom
  sets : List SetT
structure Convert where
  from_ : B
  to_ : B
  moves : List Move
structure Purpose where
  name : B
  may : List Ref
  most : Int
structure Src where
  issuers : List B
  units : List UnitT
  schemas : List Schema
  rules : List Rule
  converts : List Convert
  purposes : List Purpose
abbrev iD (n : Int) : D := .int .i64 n
def Term.enc : Term → D
  | .num n => .agg [.str [], .str [], iD (-1), iD 0, iD n]
  | .path a b => .agg [.str a, .str b, iD 0, iD 0, iD 0]
def From.enc (f : From) : D := .agg [.str f.name, .str f.kind, iD 0, match f.of_ with | none => .agg [.str [], .str [], iD 0, iD 0, iD 0] | some x => .agg [.str x.1, .str x.2, iD 0, iD 0, iD 0]]
def Atom.enc (a : Atom) : D := .agg [iD a.op, a.a.enc, a.b.enc]
def SetT.enc (s : SetT) : D := .agg [.str s.path, iD 0, s.term.enc]
def Move.enc (m : Move) : D := .agg [.str m.to_, .str m.from_, iD 0, iD 0, iD m.shift]
def Ref.enc (r : Ref) : D := .agg [.str r.name, .str r.path, iD 0, iD 0]
def strsD (l : List B) : D := .list 1 (l.map .str)
def TypeT.enc : TypeT → D
  | .num lo hi of_ => .agg [iD 1, iD lo, iD hi, .str (of_.getD []), iD 0, .nils]
  | .date => .agg [iD 2, iD 0, iD 1023, .str [], iD 0, .nils]
  | .person => .agg [iD 3, iD 0, iD 4095, .str [], iD 0, .nils]
  | .choice l => .agg [iD 4, iD 0, iD (l.length - 1), .str [], iD 0, strsD l]
def Field.enc (f : Field) : D := .agg [.str f.name, f.type.enc, .agg (f.weights.map iD)]
def Depend.enc (d : Depend) : D := .agg [strsD d.names, .str d.name, .nils, iD 0]
def UnitT.enc (u : UnitT) : D := match u.of_ with
  | none => .agg [.str u.name, .str [], iD 0, iD 0, iD 0]
  | some x => .agg [.str u.name, .str x.2, iD x.1, iD 0, iD 0]
def Schema.enc (s : Schema) : D := .agg [.str s.name, .str s.by_, iD 0, iD s.version, .list 11 (s.fields.map Field.enc), .list 4 (s.depends.map Depend.enc)]
def Rule.enc (r : Rule) : D := .agg [.str r.head, iD 0, .list 8 (r.froms.map From.enc), .list 11 (r.wheres.map Atom.enc), .list 7 (r.sets.map SetT.enc)]
def Convert.enc (c : Convert) : D := .agg [.str c.from_, .str c.to_, iD 0, iD 0, .list 5 (c.moves.map Move.enc)]
def Purpose.enc (p : Purpose) : D := .agg [.str p.name, .list 4 (p.may.map Ref.enc), iD p.most]

def pathM : M (B × B) := do let a ← nameM; signM [46]; let b ← nameM; pure (a, b)
def termM : M Term := fun ts => if nextB 2 [] ts then (do let n ← numberM 0 1048576; pure (.num n) : M Term) ts else (do let x ← pathM; pure (.path x.1 x.2) : M Term) ts
def fromM : M From := do
  wordM [102, 114, 111, 109]
  let a ← nameM
  let b ← nameM
  let c ← acceptM 1 [111, 102]
  if c then do let x ← pathM; signM [59]; pure ⟨a, b, some x⟩ else do signM [59]; pure ⟨a, b, none⟩
def opM : M Int := do
  let b ← acceptM 3 [61]
  if b then pure 1 else do
    let b ← acceptM 3 [60]
    if b then do
      let b ← acceptM 3 [61]
      pure (if b then 3 else 2)
    else do signM [33]; signM [61]; pure 4
def whereM : M Atom := do
  wordM [119, 104, 101, 114, 101]
  let a ← termM
  let o ← opM
  let b ← termM
  signM [59]
  pure ⟨o, a, b⟩
def setM : M SetT := do wordM [115, 101, 116]; let a ← nameM; signM [61]; let t ← termM; signM [59]; pure ⟨a, t⟩
def shiftM : M Int := do
  let b ← acceptM 3 [43]
  if b then numberM 0 1048576 else do
    let b ← acceptM 3 [45]
    if b then do let n ← numberM 0 1048576; pure (-n) else pure 0
def moveM : M Move := do let a ← nameM; signM [61]; let b ← nameM; let n ← shiftM; signM [59]; pure ⟨a, b, n⟩
def mayM : M Ref := do wordM [109, 97, 121]; let x ← pathM; signM [59]; pure ⟨x.1, x.2⟩
def repM : Nat → M (List Int)
  | 0 => pure []
  | n + 1 => do let a ← numberM 0 9; let l ← repM n; pure (a :: l)
def weightsM : M (List Int) := repM 4
def listedM (most : Nat) : M (List B) := do let a ← nameM; let l ← listM (nextB 3 [44]) (do signM [44]; nameM) (most - 1); pure (a :: l)
def kindM : M TypeT := do
  let b ← acceptM 1 [110, 117, 109, 98, 101, 114]
  if b then do
    let lo ← numberM 0 1048576
    wordM [116, 111]
    let hi ← numberM 0 1048576
    let b ← acceptM 1 [105, 110]
    if b then do let n ← nameM; pure (.num lo hi (some n)) else pure (.num lo hi none)
  else do
    let b ← acceptM 1 [100, 97, 116, 101]
    if b then pure .date else do
      let b ← acceptM 1 [112, 101, 114, 115, 111, 110]
      if b then pure .person else do
        let b ← acceptM 1 [99, 104, 111, 105, 99, 101]
        if b then do let l ← listedM 16; pure (.choice l) else fail 100
def fieldM : M Field := do wordM [102, 105, 101, 108, 100]; let n ← nameM; signM [58]; let t ← kindM; let w ← weightsM; signM [59]; pure ⟨n, t, w⟩
def dependM : M Depend := do wordM [100, 101, 112, 101, 110, 100]; let l ← listedM 11; wordM [103, 105, 118, 101]; let n ← nameM; signM [59]; pure ⟨l, n⟩

def issuerM (s : Src) : M Src := do
  roomM s.issuers.length 8
  wordM [105, 115, 115, 117, 101, 114]
  let a ← nameM
  signM [59]
  pure { s with issuers := s.issuers ++ [a] }
def unitM (s : Src) : M Src := do
  roomM s.units.length 16
  wordM [117, 110, 105, 116]
  let a ← nameM
  let b ← acceptM 3 [61]
  if b then do
    let n ← numberM 2 1000
    let o ← nameM
    signM [59]
    pure { s with units := s.units ++ [⟨a, some (n, o)⟩] }
  else do
    signM [59]
    pure { s with units := s.units ++ [⟨a, none⟩] }
def bodyM : Nat → Schema → M Schema
  | 0, _ => fail 0
  | n + 1, s => do
    let b ← acceptM 3 [125]
    if b then pure s else (ifM (nextB 1 [102, 105, 101, 108, 100]) (do roomM s.fields.length 12; let f ← fieldM; bodyM n { s with fields := s.fields ++ [f] }) (ifM (nextB 1 [100, 101, 112, 101, 110, 100]) (do roomM s.depends.length 8; let d ← dependM; bodyM n { s with depends := s.depends ++ [d] }) (fail 100)))
def schemaM (s : Src) : M Src := do
  roomM s.schemas.length 16
  wordM [115, 99, 104, 101, 109, 97]
  let a ← nameM
  wordM [98, 121]
  let b ← nameM
  wordM [118, 101, 114, 115, 105, 111, 110]
  let v ← numberM 1 255
  wordM [115, 101, 108, 102]
  let w ← weightsM
  signM [123]
  let x ← bodyM 21 ⟨a, b, v, [⟨[115, 101, 108, 102], .person, w⟩], []⟩
  pure { s with schemas := s.schemas ++ [x] }
def ruleM (s : Src) : M Src := do
  roomM s.rules.length 16
  wordM [100, 101, 114, 105, 118, 101]
  let a ← nameM
  signM [123]
  ifM (nextB 1 [102, 114, 111, 109]) (do
    let f ← listM (nextB 1 [102, 114, 111, 109]) fromM 3
    let w ← listM (nextB 1 [119, 104, 101, 114, 101]) whereM 8
    let t ← listM (nextB 1 [115, 101, 116]) setM 11
    signM [125]
    pure { s with rules := s.rules ++ [⟨a, f, w, t⟩] }) (fail 100)
def convertM (s : Src) : M Src := do
  roomM s.converts.length 16
  wordM [99, 111, 110, 118, 101, 114, 116]
  let a ← nameM
  wordM [116, 111]
  let b ← nameM
  signM [123]
  let l ← listM (nextB 1 []) moveM 11
  signM [125]
  pure { s with converts := s.converts ++ [⟨a, b, l⟩] }
def purposeM (s : Src) : M Src := do
  roomM s.purposes.length 8
  wordM [112, 117, 114, 112, 111, 115, 101]
  let a ← nameM
  signM [123]
  let l ← listM (nextB 1 [109, 97, 121]) mayM 32
  wordM [109, 111, 115, 116]
  let n ← numberM 0 32
  signM [59]
  signM [125]
  pure { s with purposes := s.purposes ++ [⟨a, l, n⟩] }

def atI (en : Int) : List Tok → Int
  | [] => en
  | x :: _ => x.at_
def failE (ts : List Tok) (e : Int) : Int := match ts with
  | [] => 100
  | _ => e
abbrev pv (ts : List Tok) (en : Int) (S : V) : V := .agg [.d (.list 4 (ts.map Tok.enc)), .d (.int .i64 en), S]
abbrev failD (en : Int) (ts : List Tok) (e : Int) : D := .iface 60 (.agg [.int .i64 (atI en ts), .int .i64 (failE ts e)])
abbrev pb (ts : List Tok) (en : Int) (S : V) : Ob := .box 66 (pv ts en S)
def PK {α : Type} (K : Out → Objs → Prop) (ob : Objs) (p : Nat) (en : Int) (S : V) (v : α → V) : R α → Prop
  | .ok a ts => K (.ret (v a)) (setO ob p (pb ts en S))
  | .err ts e => K (.panic (.d (failD en ts e))) (setO ob p (pb ts en S))
section
variable {α β : Type} {K : Out → Objs → Prop} {ob : Objs} {p : Nat} {en : Int} {S : V} {v : α → V}
@[simp] theorem PK_ok (a : α) (ts : List Tok) : PK K ob p en S v (.ok a ts) = K (.ret (v a)) (setO ob p (pb ts en S)) := rfl
@[simp] theorem PK_err (e : Int) (ts : List Tok) : PK K ob p en S v (.err ts e) = K (.panic (.d (failD en ts e))) (setO ob p (pb ts en S)) := rfl
theorem PK.bind {K' : Out → Objs → Prop} {ob1 : Objs} {v' : β → V} {m : M α} {f : α → M β} {ts : List Tok} (h : PK K ob p en S v' ((m >>= f) ts))
    (he : ∀ ts' e, K (.panic (.d (failD en ts' e))) (setO ob p (pb ts' en S)) → K' (.panic (.d (failD en ts' e))) (setO ob1 p (pb ts' en S)))
    (hk : ∀ a ts', m ts = .ok a ts' → PK K ob p en S v' (f a ts') → K' (.ret (v a)) (setO ob1 p (pb ts' en S))) : PK K' ob1 p en S v (m ts) := by
  rw [bind_eq] at h
  cases hm : m ts with
  | ok a ts' => rw [hm] at h; exact hk a ts' hm h
  | err ts' e => rw [hm] at h; exact he ts' e h
end
theorem PK.tail {α : Type} {K K' : Out → Objs → Prop} {ob ob1 : Objs} {p : Nat} {en : Int} {S : V} {v : α → V} {v' : α → V} {m : M α} {ts : List Tok} (h : PK K ob p en S v' (m ts))
    (he : ∀ ts' e, K (.panic (.d (failD en ts' e))) (setO ob p (pb ts' en S)) → K' (.panic (.d (failD en ts' e))) (setO ob1 p (pb ts' en S)))
    (hk : ∀ a ts', m ts = .ok a ts' → K (.ret (v' a)) (setO ob p (pb ts' en S)) → K' (.ret (v a)) (setO ob1 p (pb ts' en S))) : PK K' ob1 p en S v (m ts) := by
  cases hm : m ts with
  | ok a ts' => rw [hm] at h; exact hk a ts' hm h
  | err ts' e => rw [hm] at h; exact he ts' e h
theorem men_look {q : Nat → Bool} : ∀ {ob : Objs} {k E : Nat} {v : V}, noMenO q ob = true → lookO ob k = some (.box E v) → V.men q v = false
  | (j, o) :: r, k, E, v, h, hl => by
    simp only [lookO] at hl
    split at hl
    · cases hl
      simp only [noMenO, Bool.and_eq_true, Bool.not_eq_true'] at h
      exact h.1
    · refine men_look (ob := r) ?_ hl
      cases o <;> simp_all [noMenO]
theorem setO_self : ∀ {ob : Objs} {k : Nat} {o : Ob}, lookO ob k = some o → setO ob k o = ob
  | (j, o') :: r, k, o, h => by
    simp only [lookO] at h
    simp only [setO]
    split
    · rename_i e; simp [e] at h; subst h; rfl
    · rename_i e; rw [setO_self (by simpa [e] using h)]
@[simp] theorem succ_ne (n : Nat) : ((n : Int) + 1 = 0) = False := by simp; omega
@[simp] theorem one_le_succ (n : Nat) : (1 ≤ (n : Int) + 1) = True := by simp; omega
@[simp] theorem ex3 (a b n : Nat) (c : List D) : (∃ E z xs, (a = E ∧ b = z ∧ c = xs) ∧ n = xs.length) = (n = c.length) := by
  rw [eq_iff_iff]
  exact ⟨fun ⟨_, _, _, ⟨_, _, h3⟩, h4⟩ => h3 ▸ h4, fun h => ⟨_, _, _, ⟨rfl, rfl, rfl⟩, h⟩⟩
@[simp] theorem add11 (n : Nat) : n + 1 + 1 = n + 2 := rfl
@[simp] theorem add21 (n : Nat) : n + 2 + 1 = n + 3 := rfl
@[simp] theorem add31 (n : Nat) : n + 3 + 1 = n + 4 := rfl
@[simp] theorem add41 (n : Nat) : n + 4 + 1 = n + 5 := rfl
@[simp] theorem add51 (n : Nat) : n + 5 + 1 = n + 6 := rfl
@[simp] theorem add61 (n : Nat) : n + 6 + 1 = n + 7 := rfl
@[simp] theorem add71 (n : Nat) : n + 7 + 1 = n + 8 := rfl
@[simp] theorem add12 (n : Nat) : n + 1 + 2 = n + 3 := rfl
@[simp] theorem add22 (n : Nat) : n + 2 + 2 = n + 4 := rfl
theorem look_lt {ob : Objs} {k : Nat} {o : Ob} (h : lookO ob k = some o) : k < fresh ob := by
  rcases Nat.lt_or_ge k (fresh ob) with h1 | h1
  · exact h1
  · rw [fresh_look ob k h1] at h; cases h
theorem leave_p {ob ob2 : Objs} {p : Nat} {ts ts' : List Tok} {en : Int} {S : V} (hp : lookO ob p = some (pb ts en S)) (hm : ∀ kp, noMenO (young (fresh ob) kp) ob = true) {K : Objs → Prop} {vs : List V} (h : K (setO ob p (pb ts' en S))) (hv : V.mens (young (fresh ob) []) vs = false) (hd : dropO (young (fresh ob) []) ob2 = setO ob p (pb ts' en S)) : leaveK (fresh ob) K vs ob2 := by
  refine ⟨[], hv, ?_, ?_⟩
  · rw [hd]
    refine noMenO_set_box _ _ _ _ _ (hm _) ?_
    have := men_look (hm []) hp
    simpa [pv] using this
  · rw [hd]; exact h
@[simp] theorem Term.enc_shape (t : Term) : t.enc.shape = .node [.leaf, .leaf, .leaf, .leaf, .leaf] := by cases t <;> simp [Term.enc, D.shape]
@[simp] theorem TypeT.enc_shape (t : TypeT) : t.enc.shape = .node [.leaf, .leaf, .leaf, .leaf, .leaf, .leaf] := by cases t <;> simp [TypeT.enc, strsD, D.shape]
theorem repM_len : ∀ {n : Nat} {ts ts' : List Tok} {l : List Int}, repM n ts = .ok l ts' → l.length = n
  | 0, ts, ts', l, h => by cases h; rfl
  | n + 1, ts, ts', l, h => by
    simp only [repM, bind_eq] at h
    cases h1 : numberM 0 9 ts with
    | err a b => rw [h1] at h; cases h
    | ok a t1 =>
      rw [h1] at h
      cases h2 : repM n t1 with
      | err a b => simp only [h2] at h; cases h
      | ok l' t2 =>
        simp only [h2] at h
        cases h
        simp [repM_len h2]
theorem weights_four {ts ts' : List Tok} {l : List Int} (h : weightsM ts = .ok l ts') : ∃ a b c d, l = [a, b, c, d] := by
  have := repM_len h
  match l, this with
  | [a, b, c, d], _ => exact ⟨a, b, c, d, rfl⟩
theorem listM_len {α : Type} {begins : List Tok → Bool} {read : M α} : ∀ {n : Nat} {ts ts' : List Tok} {l : List α}, listM begins read n ts = .ok l ts' → l.length ≤ n
  | 0, ts, ts', l, h => by
    simp only [listM] at h
    split at h
    · cases h
    · cases h; simp
  | n + 1, ts, ts', l, h => by
    simp only [listM] at h
    split at h
    · simp only [bind_eq] at h
      cases h1 : read ts with
      | err a b => rw [h1] at h; cases h
      | ok a t1 =>
        rw [h1] at h
        cases h2 : listM begins read n t1 with
        | err a b => simp only [h2] at h; cases h
        | ok l' t2 =>
          simp only [h2] at h
          cases h
          have := listM_len h2
          simpa using this
    · cases h; simp
theorem listedM_len {n : Nat} {ts ts' : List Tok} {l : List B} (h : listedM n ts = .ok l ts') : 1 ≤ l.length ∧ l.length ≤ n - 1 + 1 := by
  simp only [listedM, bind_eq] at h
  cases h1 : nameM ts with
  | err a b => rw [h1] at h; cases h
  | ok a t1 =>
    rw [h1] at h
    cases h2 : listM (nextB 3 [44]) (do signM [44]; nameM) (n - 1) t1 with
    | err a b => simp only [h2] at h; cases h
    | ok l' t2 =>
      simp only [h2] at h
      cases h
      have := listM_len h2
      simpa using this
@[simp] theorem From.enc_shape (f : From) : f.enc.shape = .node [.leaf, .leaf, .leaf, .node [.leaf, .leaf, .leaf, .leaf, .leaf]] := by
  obtain ⟨a, b, c⟩ := f
  cases c <;> simp [From.enc, D.shape]
@[simp] theorem Atom.enc_shape (f : Atom) : f.enc.shape = .node [.leaf, .node [.leaf, .leaf, .leaf, .leaf, .leaf], .node [.leaf, .leaf, .leaf, .leaf, .leaf]] := by simp [Atom.enc, D.shape]
@[simp] theorem SetT.enc_shape (f : SetT) : f.enc.shape = .node [.leaf, .leaf, .node [.leaf, .leaf, .leaf, .leaf, .leaf]] := by simp [SetT.enc, D.shape]
@[simp] theorem Move.enc_shape (f : Move) : f.enc.shape = .node [.leaf, .leaf, .leaf, .leaf, .leaf] := by simp [Move.enc, D.shape]
@[simp] theorem Ref.enc_shape (f : Ref) : f.enc.shape = .node [.leaf, .leaf, .leaf, .leaf] := by simp [Ref.enc, D.shape]
abbrev srcV (s : Src) : V := .agg [.sl 5 s.issuers.length, .sl 6 s.units.length, .sl 7 s.schemas.length, .sl 8 s.rules.length, .sl 9 s.converts.length, .sl 10 s.purposes.length]
abbrev defsO : Ob := .map [(.str [105, 115, 115, 117, 101, 114], .fn 19 [] []), (.str [117, 110, 105, 116], .fn 20 [] []), (.str [115, 99, 104, 101, 109, 97], .fn 21 [] []), (.str [100, 101, 114, 105, 118, 101], .fn 22 [] []), (.str [99, 111, 110, 118, 101, 114, 116], .fn 23 [] []), (.str [112, 117, 114, 112, 111, 115, 101], .fn 24 [] [])]
abbrev zeroS : D := .agg [.nils, .nils, .nils, .nils, .nils, .nils]
abbrev stO (en : Int) (ts : List Tok) (s : Src) : Objs :=
  [(10, .arr 88 3 (s.purposes.map Purpose.enc)), (9, .arr 84 5 (s.converts.map Convert.enc)), (8, .arr 50 5 (s.rules.map Rule.enc)), (7, .arr 79 6 (s.schemas.map Schema.enc)), (6, .arr 74 5 (s.units.map UnitT.enc)), (5, .arr 9 1 (s.issuers.map D.str)),
    (4, pb ts en (srcV s)), (3, defsO), (2, .box 31 (.d (.int .i64 0))), (1, .box 3 (.d (.int .i64 0))), (0, .box 30 (.d zeroS))]
def PS (K : Out → Objs → Prop) (en : Int) : R Src → Prop
  | .ok s ts => K (.ret (.tup [])) (stO en ts s)
  | .err ts e => ∀ s, K (.panic (.d (failD en ts e))) (stO en ts s)
theorem PS.bind {α : Type} {K K' : Out → Objs → Prop} {en : Int} {S : V} {ob1 : Objs} {v : α → V} {m : M α} {f : α → M Src} {ts : List Tok} (h : PS K en ((m >>= f) ts))
    (he : ∀ ts' e, (∀ s, K (.panic (.d (failD en ts' e))) (stO en ts' s)) → K' (.panic (.d (failD en ts' e))) (setO ob1 4 (pb ts' en S)))
    (hk : ∀ a ts', m ts = .ok a ts' → PS K en (f a ts') → K' (.ret (v a)) (setO ob1 4 (pb ts' en S))) : PK K' ob1 4 en S v (m ts) := by
  rw [bind_eq] at h
  cases hm : m ts with
  | ok a ts' => rw [hm] at h; exact hk a ts' hm h
  | err ts' e => rw [hm] at h; exact he ts' e h
theorem leave_s {en : Int} {ts : List Tok} {s : Src} {K : Objs → Prop} {vs : List V} {ob2 : Objs} (h : K (stO en ts s)) (hv : V.mens (young 11 []) vs = false) (hd : dropO (young 11 []) ob2 = stO en ts s) : leaveK 11 K vs ob2 := by
  refine ⟨[], hv, ?_, ?_⟩
  · rw [hd]; simp [young, mensE]
  · rw [hd]; exact h
structure Few (s : Src) : Prop where
  issuers : s.issuers.length ≤ 8
  units : s.units.length ≤ 16
  schemas : s.schemas.length ≤ 16
  rules : s.rules.length ≤ 16
  converts : s.converts.length ≤ 16
  purposes : s.purposes.length ≤ 8
end Go.Sx
/- Contracts: the parser's small readers. Condition: the program is the seat's. -/
namespace Go.Proofs.YtanpgmgkmfckaaaGreatDoor
open Go Go.Ab Go.Lx Go.Sx
set_option maxRecDepth 100000
section
variable {P : Prg} (hP : P.p = Tryz.prog) {ob : Objs} {p : Nat} {ts : List Tok} {en : Int} {S : V} (hS : V.allD [S] = none) (hp : lookO ob p = some (pb ts en S)) {K : Out → Objs → Prop}
include hP hS hp
theorem y_fail (e : Int) (h : K (.panic (.d (failD en ts e))) (setO ob p (pb ts en S))) : ACall P 25 [.ptr p [], .d (.int .i64 e)] ob K := by
  refine acall_lift hP mixed ok25 lf25 TOk.nil fun _ hm => ?_
  cases ts with
  | nil =>
    simp [lt25, hp]
    exact leave_p hp hm (by simpa [failD, atI, failE] using h) (by simp) (by simp [setO_self hp])
  | cons t ts =>
    simp [lt25, lt25_s0, hp, Tok.enc]
    exact leave_p hp hm (by simpa [failD, atI, failE] using h) (by simp) (by simp [setO_self hp])
theorem y_next (k : Int) (t : B) (h : K (.ret (.d (.bool (nextB k t ts)))) (setO ob p (pb ts en S))) : ACall P 65 [.ptr p [], .d (.int .i64 k), .d (.str t)] ob K := by
  refine acall_lift hP mixed ok65 lf65 TOk.nil fun _ hm => ?_
  cases ts with
  | nil =>
    simp [lt65, hp]
    exact leave_p hp hm (by simpa [nextB] using h) (by simp) (by simp [setO_self hp])
  | cons x ts =>
    simp [lt65, hp, Tok.enc]
    exact leave_p hp hm (by simpa [nextB] using h) (by simp) (by simp [setO_self hp])
theorem y_take (k : Int) (t : B) (h : PK K ob p en S (fun t => .d t.enc) (takeM k t ts)) : ACall P 133 [.ptr p [], .d (.int .i64 k), .d (.str t)] ob K := by
  refine acall_lift hP mixed ok133 lf133 TOk.nil fun _ hm => ?_
  simp [lt133, hp]
  refine y_next hP hS (ts := ts) (en := en) (S := S) (by simp [hp]) _ _ ?_
  simp [hp]
  refine ⟨fun hn => ?_, fun hn => ?_⟩
  · simp [takeM, hn] at h
    refine y_fail hP hS (ts := ts) (en := en) (S := S) (by simp [hp]) _ ?_
    simp [hp]
    exact leave_p hp hm h (by simp) (by simp [hp])
  · cases ts with
    | nil => simp [nextB] at hn
    | cons x ts =>
      simp [takeM, hn] at h
      simp [lt133_s0, hp, hS, Tok.enc]
      exact leave_p hp hm h (by simp) (by simp [hp])
theorem y_name (h : PK K ob p en S (fun t => .d (.str t)) (nameM ts)) : ACall P 60 [.ptr p []] ob K := by
  refine acall_lift hP mixed ok60 lf60 TOk.nil fun _ hm => ?_
  simp [lt60, hp]
  refine y_take hP hS hp _ _ ?_
  refine PK.bind h (fun ts' e h => ?_) (fun a ts' ha h => ?_)
  · simp
    exact leave_p hp hm h (by simp) (by simp [hp])
  · simp [Tok.enc]
    exact leave_p hp hm h (by simp) (by simp [hp])
theorem y_word (t : B) (h : PK K ob p en S (fun _ => .tup []) (wordM t ts)) : ACall P 59 [.ptr p [], .d (.str t)] ob K := by
  refine acall_lift hP mixed ok59 lf59 TOk.nil fun _ hm => ?_
  simp [lt59, hp]
  refine y_take hP hS hp _ _ ?_
  refine PK.bind h (fun ts' e h => ?_) (fun a ts' ha h => ?_)
  · simp
    exact leave_p hp hm h (by simp) (by simp [hp])
  · simp [Tok.enc]
    exact leave_p hp hm h (by simp) (by simp [hp])
theorem y_sign (t : B) (h : PK K ob p en S (fun _ => .tup []) (signM t ts)) : ACall P 61 [.ptr p [], .d (.str t)] ob K := by
  refine acall_lift hP mixed ok61 lf61 TOk.nil fun _ hm => ?_
  simp [lt61, hp]
  refine y_take hP hS hp _ _ ?_
  refine PK.bind h (fun ts' e h => ?_) (fun a ts' ha h => ?_)
  · simp
    exact leave_p hp hm h (by simp) (by simp [hp])
  · simp [Tok.enc]
    exact leave_p hp hm h (by simp) (by simp [hp])
theorem y_accept (k : Int) (t : B) (h : PK K ob p en S (fun b => .d (.bool b)) (acceptM k t ts)) : ACall P 62 [.ptr p [], .d (.int .i64 k), .d (.str t)] ob K := by
  refine acall_lift hP mixed ok62 lf62 TOk.nil fun _ hm => ?_
  simp [lt62, hp]
  refine y_next hP hS hp _ _ ?_
  simp [hp]
  refine ⟨fun hn => ?_, fun hn => ?_⟩
  · simp [acceptM, hn] at h
    exact leave_p hp hm h (by simp) (by simp [hp])
  · cases ts with
    | nil => simp [nextB] at hn
    | cons x ts =>
      simp [acceptM, hn] at h
      simp [hp, hS]
      exact leave_p hp hm h (by simp) (by simp [hp])
theorem y_room (many most : Nat) (h : PK K ob p en S (fun _ => .tup []) (roomM many most ts)) : ACall P 58 [.ptr p [], .d (.int .i64 many), .d (.int .i64 most)] ob K := by
  refine acall_lift hP mixed ok58 lf58 TOk.nil fun _ hm => ?_
  simp [lt58, hp]
  refine ⟨fun hn => ?_, fun hn => ?_⟩
  · simp [roomM, show many = most by omega] at h
    refine y_fail hP hS hp _ ?_
    simp
    exact leave_p hp hm h (by simp) (by simp [hp])
  · simp [roomM, show many ≠ most by omega] at h
    exact leave_p hp hm h (by simp) (by simp [setO_self hp])
end
end Go.Proofs.YtanpgmgkmfckaaaGreatDoor
