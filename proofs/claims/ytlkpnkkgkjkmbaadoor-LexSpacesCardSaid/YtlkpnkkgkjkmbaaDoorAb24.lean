/- Functions that defer a call, and deferred functions that recover. Over any program; no condition. -/
import Derived.Test.YtlkpnkkgkjkmbaaDoorAb23
import Derived.Defers
import Derived.Recover
namespace Go.Ab
open Go

/-! A deferred function whose first operation is 'recover()' -/

/-- A deferred call of f, in a function that returns ('none') or panics with a value: it ends, the panic is recovered. -/
structure DCall (P : Prg) (f : Nat) (vs : List V) (ob : Objs) (rv : Option V) (K : Objs → Prop) : Prop where
  ret : rv = none → ∀ w ρ args, OM w ρ ob → ρ.gl = P.g → V.reps w ρ vs args → CallsD P.p f args.toArray .returning w (fun e u w' => (∃ v, e = .returned v) ∧ u = .returning ∧ ∃ ob' ρ', K ob' ∧ OM w' ρ' ob' ∧ Tr w ρ w' ρ')
  pan : ∀ v, rv = some v → ∀ w ρ args x, OM w ρ ob → ρ.gl = P.g → V.reps w ρ vs args → v.rep w ρ x → (∃ t y, x = .iface t y) → CallsD P.p f args.toArray (.panicking [{ v := x, recovered := false }]) w
    (fun e u w' => (∃ v, e = .returned v) ∧ u = .panicking [{ v := x, recovered := true }] ∧ ∃ ob' ρ', K ob' ∧ OM w' ρ' ob' ∧ Tr w ρ w' ρ')

def recOp : Op → Bool
  | .call { callee := .builtin .recover, .. } => true
  | _ => false
def dfnOk (P : Program) (f n k : Nat) (its : List It) (s : S) : Bool := match P.funcs[f]? with
  | some fn => match fn.body with
    | some (.seq (.region _ ops false) code) => match ops.toList with
      | o :: os => decide (n ≤ fn.ntmps) && decide (k < fn.ntmps) && recOp o.op && o.dst == some k && o.guard.isNone && chkIts P fn.ntmps ops os its && S.chk P fn.ntmps code s && fn.results.isEmpty
      | [] => false
    | _ => false
  | none => false

def dQ (n : Nat) (K : Objs → Prop) : Post
  | .normal, _, ob => leaveK n K [] ob
  | .ret, _, ob => leaveK n K [] ob
  | .panic _, _, _ => False
  | .exit _, _, _ => False

/-- the operations behind 'recover()' -/
theorem listS_sound {P : Prg} {c : Ctx} (hg : P.g = c.g) {xo : Nat → Prop} {ops : Array Oper} {cs : List Frame} {Q : Exit → Act → List Frame → World → Prop} {K : Slots → Objs → Prop}
    (hK : ∀ sl ob ρ a w, K sl ob → Mod c xo ρ sl ob a w → Q .normal a cs w) :
    ∀ (l : List Oper) (j : Nat) (its : List It) (sl : Slots) (ob : Objs) (ρ : Env) (a : Act) (w : World), ops.toList.drop j = l → chkIts P.p c.N ops l its = true → rwp P K (fun _ _ _ => False) its sl ob → Mod c xo ρ sl ob a w → wpOpsS P.p ops Q (List.range' j l.length) a cs w
  | [], j, [], sl, ob, ρ, a, w, _, _, h, m => by simp only [List.length_nil, List.range'_zero, wpOpsS]; exact hK sl ob ρ a w h m
  | o :: r, j, i :: s, sl, ob, ρ, a, w, hd, hc, h, m => by
    simp only [chkIts, Bool.and_eq_true] at hc
    obtain ⟨h1, h2⟩ := hc
    have hj : ops[j]? = some o := by
      have := congrArg (·[0]?) hd
      simpa using this
    have hd' : ops.toList.drop (j + 1) = r := by
      have := congrArg (List.drop 1) hd
      simpa [List.drop_drop] using this
    have step : ∀ (d : Option Nat) (x : I) (sl : Slots), SM w ρ sl a → dstOk c.N o.dst d = true → x.chk P.p o.op = true → x.wp P sl ob (fun v ob' => rwp P K (fun _ _ _ => False) s (put sl d v) ob') (fun v ob' => False) →
        o.wp P.p a w (fun a' w' => wpOpsS P.p ops Q (List.range' (j + 1) r.length) a' cs w') (fun e a' w' => Q e a' cs w') := by
      intro d x sl hs hd hx hw
      refine I.sound (m.gl.trans hg.symm) hs m.om hx hw o rfl _ _ (fun v y ob' w' ρ' hk hr ho t => ?_) (fun u y ob' w' ρ' hk hr ho t => hk.elim)
      obtain ⟨g1, g2, g3⟩ := rep_look_put hd m.size (hs.tr t) hr
      exact listS_sound hg hK r (j + 1) s _ ob' ρ' _ w' hd' h2 hk ⟨m.base.tr t, ho, g1, g2, g3.trans m.df, t.xo.trans m.xo, t.gl.trans m.gl⟩
    have fin : o.wp P.p a w (fun a' w' => wpOpsS P.p ops Q (List.range' (j + 1) r.length) a' cs w') (fun e a' w' => Q e a' cs w') → Region.wanted o (yielded ops a.tmps) = true → wpOpsS P.p ops Q (List.range' j (r.length + 1)) a cs w := by
      intro hw hwant
      rw [List.range'_succ]
      simp only [wpOpsS, hj, hwant, if_true]
      unfold Oper.wp at hw
      split
      · rename_i w' hrun
        rw [hrun] at hw
        exact hw.elim
      · exact hw
    simp only [List.length_cons]
    cases i with
    | op d x =>
      simp only [It.chk, Bool.and_eq_true, Option.isNone_iff_eq_none] at h1
      simp only [rwp] at h
      exact fin (step d x sl m.sm h1.1.1 h1.2 h) (by simp [Region.wanted, h1.1.2])
    | gop g want d x =>
      simp only [It.chk, Bool.and_eq_true] at h1
      simp only [rwp] at h
      rcases guard_sound (ops := ops) m.sm h1.1.2 h with ⟨hw, sl', hs, h⟩ | ⟨hw, sl', hs, h⟩
      · exact fin (step d x sl' hs h1.1.1 h1.2 h) hw
      · rw [List.range'_succ]
        simp only [wpOpsS, hj, hw, Bool.false_eq_true, if_false]
        obtain ⟨g1, g2, g3⟩ := rep_look_put h1.1.1 m.size hs (rep_undef.2 rfl)
        exact listS_sound hg hK r (j + 1) s _ ob ρ _ w hd' h2 h ⟨m.base, m.om, g1, g2, g3.trans m.df, m.xo, m.gl⟩
  | [], _, _ :: _, _, _, _, _, _, _, hc, _, _ => by simp [chkIts] at hc
  | _ :: _, _, [], _, _, _, _, _, _, hc, _, _ => by simp [chkIts] at hc

/-- **A deferred function that recovers**, by its body. -/
theorem dcall_walk {P : Prg} (hm : P.p.follows .mixedOrders = true) {f k : Nat} {its : List It} {keep : List Nat} {s : S} {vs : List V} {ob : Objs} {rv : Option V} {K : Objs → Prop} (hc : dfnOk P.p f vs.length k its s = true)
    (h : rwp P (fun sl ob' => cwp P s (dQ (fresh ob) K) (keepS sl keep) ob') (fun _ _ _ => False) its ((k, rv.getD (.d .nili)) :: argS 0 vs) ob) : DCall P f vs ob rv K := by
  unfold dfnOk at hc
  split at hc
  · rename_i fn hf
    split at hc
    · rename_i id ops code hb
      split at hc
      · rename_i o os hops
        simp only [Bool.and_eq_true, decide_eq_true_eq, Option.isNone_iff_eq_none, beq_iff_eq] at hc
        obtain ⟨⟨⟨⟨⟨⟨⟨hn, hk⟩, hrec⟩, hdst⟩, hgd⟩, hits⟩, hs⟩, hres⟩ := hc
        have hemp : fn.results = #[] := by simpa using hres
        have hres' : ∀ (t : Array Value) (w : World), (results fn t).run P.p w = .ok (.tuple #[]) w := fun t w => by simp [results, hemp]
        have hop : ∃ args ts, o.op = .call { callee := .builtin .recover, args := args, argTypes := ts } := by
          revert hrec; generalize o.op = op; intro hrec
          unfold recOp at hrec
          split at hrec
          · exact ⟨_, _, rfl⟩
          · simp at hrec
        obtain ⟨rargs, rts, hop⟩ := hop
        have hrun : ∀ (a : Act) (w : World), (execOp a.eval o).run P.p w = .ok .recover w := fun a w => by
          simp [execOp, hop, resolve, invoke, builtin]
        have ho0 : ops[0]? = some o := by
          have := congrArg (·[0]?) hops; simpa using this
        have hsize : ops.size = os.length + 1 := by
          have := congrArg List.length hops; simpa using this
        have hdrop : ops.toList.drop 1 = os := by rw [hops]; rfl
        have key : ∀ w ρ args, OM w ρ ob → ρ.gl = P.g → V.reps w ρ vs args → ∀ (u u' : FrameMode) (x : Value), (rv.getD (.d .nili)).rep w ρ x →
            (∀ (c0 : Frame) (cs : List Frame), c0.mode = u → (recoverD (c0 :: cs) = some (x, { c0 with mode := u' } :: cs)) ∨ (recoverD (c0 :: cs) = none ∧ x = .nilIface ∧ u' = u)) →
            CallsD P.p f args.toArray u w (fun e v w' => (∃ v, e = .returned v) ∧ v = u' ∧ ∃ ob' ρ', K ob' ∧ OM w' ρ' ob' ∧ Tr w ρ w' ρ') := by
          intro w ρ args hO hg hr u u' x hx hrecD
          refine callsD_of_wpS hf hb fun c0 cs hc0 => ?_
          let c : Ctx := ⟨w, ownM ρ, fn.ntmps, [], P.g, ρ.m, []⟩
          have hlen : args.length = vs.length := by simpa using reps_length hr
          have m : Mod c ρ.xo ρ (argS 0 vs) ob { tmps := args.toArray ++ Array.replicate (fn.ntmps - args.toArray.size) undef, defers := [] } w := by
            refine ⟨⟨Nat.le_refl _, fun _ _ _ => rfl, fun b h => .inr h, rfl, rfl, rfl, fun id o h => ⟨o, h, .refl o⟩, (fun p hp => by cases hp)⟩, hO, ?_, ?_, rfl, rfl, hg⟩
            · refine argS_rep hr 0 _ (fun i hi => ?_)
              simp [Array.getElem?_append, hi]
            · simp [c]; omega
          have hout : ∀ (e : Exit) (a' : Act) (w' : World) cs', cs' = { c0 with mode := u' } :: cs → lift c ρ.xo (dQ (fresh ob) K) e a' w' → bodyPostS P.p fn c0 cs (fun e v w' => (∃ v, e = .returned v) ∧ v = u' ∧ ∃ ob' ρ', K ob' ∧ OM w' ρ' ob' ∧ Tr w ρ w' ρ') e a' cs' w' := by
            rintro e a' w' cs' rfl ⟨ae, sl', ob', ρ', hq, he, m'⟩
            have old : ∀ kp id o, ρ.m id = some o → young (fresh ob) kp id = false := fun kp id o h0 => by
              obtain ⟨x, hx⟩ := hO.dom id o h0
              have hlt : ¬ fresh ob ≤ id := fun hle => by rw [fresh_look _ _ hle] at hx; cases hx
              simp [young, hlt]
            have tr : ∀ kp, Tr w ρ w' (ρ'.del (young (fresh ob) kp)) := fun kp => by
              have b2 := m'.base
              refine ⟨b2.size, fun b h1 h2 => b2.keep b h2 h1, fun b h1 => (b2.owns b (del_ownM h1)).symm, ?_, ?_, fun id o h1 => ?_, b2.tape, b2.os, b2.out⟩
              · show ρ'.xo = ρ.xo; rw [m'.xo]
              · show ρ'.gl = ρ.gl; rw [m'.gl, hg]
              · obtain ⟨o', h3, h4⟩ := b2.same id o h1
                exact ⟨o', by simp only [Env.del, old kp id o h1]; exact h3, h4⟩
            have hfin : leaveK (fresh ob) K [] ob' → a'.defers = [] ∧ ∃ u'', { c0 with mode := u' } :: cs = { c0 with mode := u'' } :: cs ∧ ∃ v, (results fn a'.tmps).run P.p w' = .ok v w' ∧ ((∃ v', Ending.returned v = .returned v') ∧ u'' = u' ∧ ∃ ob' ρ', K ob' ∧ OM w' ρ' ob' ∧ Tr w ρ w' ρ') := by
              rintro ⟨kp, _, k2, k3⟩
              exact ⟨m'.df, u', rfl, _, hres' _ _, ⟨_, rfl⟩, rfl, _, _, k3, m'.om.del k2, tr kp⟩
            cases ae with
            | normal => cases e <;> simp only [exM] at he; exact hfin hq
            | ret => cases e <;> simp only [exM] at he; exact hfin hq
            | exit n => exact hq.elim
            | panic v => exact hq.elim
          refine wpS_seq (wpS_region ?_)
          have hrange : List.range ops.size = 0 :: List.range' 1 os.length := by
            rw [List.range_eq_range', hsize, List.range'_succ]
          rw [hrange]
          have hwant : ∀ a : Act, Region.wanted o (yielded ops a.tmps) = true := fun a => by simp [Region.wanted, hgd]
          have hput : ∀ cs' : List Frame, cs' = { c0 with mode := u' } :: cs → wpOpsS P.p ops (Exit.thenS (code.wpS P.p (bodyPostS P.p fn c0 cs (fun e v w' => (∃ v, e = .returned v) ∧ v = u' ∧ ∃ ob' ρ', K ob' ∧ OM w' ρ' ob' ∧ Tr w ρ w' ρ'))) (bodyPostS P.p fn c0 cs (fun e v w' => (∃ v, e = .returned v) ∧ v = u' ∧ ∃ ob' ρ', K ob' ∧ OM w' ρ' ob' ∧ Tr w ρ w' ρ'))) (List.range' 1 os.length)
              (({ tmps := args.toArray ++ Array.replicate (fn.ntmps - args.toArray.size) undef, defers := [] } : Act).put o.dst x) cs' w := by
            intro cs' hcs'
            obtain ⟨g1, g2, g3⟩ := rep_look_put (d := some k) (o := o.dst) (v := x) (N := fn.ntmps) (by simp [dstOk, hdst, hk]) m.size m.sm hx
            refine listS_sound (c := c) (xo := ρ.xo) rfl (fun sl ob1 ρ1 a1 w1 hk1 m1 => ?_) os 1 its _ ob ρ _ w hdrop hits h ⟨m.base, m.om, g1, g2, g3, m.xo, m.gl⟩
            simp only [Exit.thenS]
            exact wpS_of_wp (wp_mono (cwp_sound hm rfl code s _ _ _ ρ1 a1 w1 hs hk1 ⟨m1.base, m1.om, m1.sm.keep keep, m1.size, m1.df, m1.xo, m1.gl⟩) (fun e a' w' hl => hout e a' w' cs' hcs' hl))
          have hwant0 : Region.wanted o (yielded ops (args.toArray ++ Array.replicate (fn.ntmps - args.toArray.size) undef)) = true := hwant { tmps := args.toArray ++ Array.replicate (fn.ntmps - args.toArray.size) undef, defers := [] }
          simp only [wpOpsS, ho0, hwant0, if_true, hrun]
          rcases hrecD c0 cs hc0 with hr1 | ⟨hr1, hx1, hu1⟩
          · rw [hr1]; exact hput _ rfl
          · rw [hr1]
            subst hx1
            refine hput _ ?_
            subst hu1; cases c0; simp only at hc0; subst hc0; rfl
        refine ⟨fun he w ρ args hO hg hr => ?_, fun v he w ρ args x hO hg hr hx hix => ?_⟩
        · subst he
          exact key w ρ args hO hg hr .returning .returning .nilIface (rep_nili.2 rfl) (fun c0 cs hc0 => .inr ⟨by simp [recoverD, hc0], rfl, rfl⟩)
        · subst he
          exact key w ρ args hO hg hr _ _ x hx (fun c0 cs hc0 => .inl (by simp [recoverD, hc0]))
      · simp at hc
    · simp at hc
  · simp at hc

/-! A function that defers one call -/

inductive FS where
  | pre (s : S) (r : FS)
  | dfr (its : List It) (keep : List Nat) (k : Nat) (s : S)

def dfrOp (k : Nat) : Op → Bool
  | .defer { callee := .value (.tmp j), args := args, .. } => j == k && args.isEmpty
  | _ => false
def FS.chk (P : Program) (N : Nat) : Code → FS → Bool
  | .seq a b, .pre s r => S.chk P N a s && FS.chk P N b r
  | .seq (.region _ ops false) b, .dfr its _ k s => match ops.toList.reverse with
    | o :: os => dfrOp k o.op && o.dst.isNone && o.guard.isNone && chkIts P N ops os.reverse its && S.chk P N b s
    | [] => false
  | _, _ => false

/-- what is left when the deferred call is done -/
def dferQ (P : Prg) (g : Nat) (cl : List V) (rs : List RV) (K : V → Prop) : Post
  | .normal, sl, ob => DCall P g cl ob none fun ob' => resK sl ob' rs fun vs => givsK (fun l _ => K (retV (l.map .d))) (V.givs ob' vs)
  | .ret, sl, ob => DCall P g cl ob none fun ob' => resK sl ob' rs fun vs => givsK (fun l _ => K (retV (l.map .d))) (V.givs ob' vs)
  | .panic v, sl, ob => (∃ t y, v = .iface t y ∨ ∃ z, v = .d (.iface t z)) ∧ DCall P g cl ob (some v) fun ob' => resK sl ob' rs fun vs => givsK (fun l _ => K (retV (l.map .d))) (V.givs ob' vs)
  | .exit _, _, _ => False
def dfrK (P : Prg) (s : S) (rs : List RV) (K : V → Prop) (sl : Slots) (ob : Objs) : V → Prop
  | .fn g fi ca => callable P.p g = true ∧ cwp P s (dferQ P g (fi ++ ca) rs K) sl ob
  | _ => False
def fwp (P : Prg) (rs : List RV) (K : V → Prop) : FS → Slots → Objs → Prop
  | .pre s r, sl, ob => cwp P s (thenK (fwp P rs K r) (pureQ rs K)) sl ob
  | .dfr its keep k s, sl, ob => rwp P (fun sl ob => dfrK P s rs K (keepS sl keep) ob (look (keepS sl keep) k)) (fun _ _ _ => False) its sl ob

def fnOkD (P : Program) (f n : Nat) (s : FS) (rs : List RV) : Bool := match P.funcs[f]? with
  | some fn => match fn.body with
    | some code => decide (n ≤ fn.ntmps) && FS.chk P fn.ntmps code s && chkRes P fn.results.toList rs
    | none => false
  | none => false

theorem list_then {P : Prg} {c : Ctx} (hg : P.g = c.g) {xo : Nat → Prop} {ops : Array Oper} {Q : Exit → Act → World → Prop} {K : Slots → Objs → Prop} {l' : List Oper}
    (hK : ∀ sl ob ρ a w, K sl ob → Mod c xo ρ sl ob a w → wpList P.p ops Q l' a w) :
    ∀ (l : List Oper) (its : List It) (sl : Slots) (ob : Objs) (ρ : Env) (a : Act) (w : World), chkIts P.p c.N ops l its = true → rwp P K (fun _ _ _ => False) its sl ob → Mod c xo ρ sl ob a w → wpList P.p ops Q (l ++ l') a w
  | [], [], sl, ob, ρ, a, w, _, h, m => by simp only [List.nil_append]; exact hK sl ob ρ a w h m
  | o :: r, i :: s, sl, ob, ρ, a, w, hc, h, m => by
    simp only [chkIts, Bool.and_eq_true] at hc
    obtain ⟨h1, h2⟩ := hc
    have step : ∀ (d : Option Nat) (x : I) (sl : Slots), SM w ρ sl a → dstOk c.N o.dst d = true → x.chk P.p o.op = true → x.wp P sl ob (fun v ob' => rwp P K (fun _ _ _ => False) s (put sl d v) ob') (fun v ob' => False) → o.wp P.p a w (wpList P.p ops Q (r ++ l')) Q := by
      intro d x sl hs hd hx hw
      refine I.sound (m.gl.trans hg.symm) hs m.om hx hw o rfl _ _ (fun v y ob' w' ρ' hk hr ho t => ?_) (fun u y ob' w' ρ' hk hr ho t => hk.elim)
      obtain ⟨g1, g2, g3⟩ := rep_look_put hd m.size (hs.tr t) hr
      exact list_then hg hK r s _ ob' ρ' _ w' h2 hk ⟨m.base.tr t, ho, g1, g2, g3.trans m.df, t.xo.trans m.xo, t.gl.trans m.gl⟩
    simp only [List.cons_append]
    cases i with
    | op d x =>
      simp only [It.chk, Bool.and_eq_true, Option.isNone_iff_eq_none] at h1
      simp only [rwp] at h
      simp only [wpList, Region.wanted, h1.1.2, if_true]
      exact .inl (step d x sl m.sm h1.1.1 h1.2 h)
    | gop g want d x =>
      simp only [It.chk, Bool.and_eq_true] at h1
      simp only [rwp] at h
      simp only [wpList]
      rcases guard_sound (ops := ops) m.sm h1.1.2 h with ⟨hw, sl', hs, h⟩ | ⟨hw, sl', hs, h⟩
      · rw [if_pos hw]
        exact .inl (step d x sl' hs h1.1.1 h1.2 h)
      · rw [hw]
        simp only [Bool.false_eq_true, if_false]
        obtain ⟨g1, g2, g3⟩ := rep_look_put h1.1.1 m.size hs (rep_undef.2 rfl)
        exact list_then hg hK r s _ ob ρ _ w h2 h ⟨m.base, m.om, g1, g2, g3.trans m.df, m.xo, m.gl⟩
  | [], _ :: _, _, _, _, _, _, hc, _, _ => by simp [chkIts] at hc
  | _ :: _, [], _, _, _, _, _, hc, _, _ => by simp [chkIts] at hc

section
variable {P : Prg} {w0 : World} {ρ0 : Env}
/-- how a call that adds memory at most ends -/
def pureR (w0 : World) (ρ0 : Env) (K : V → Prop) : Ending → World → Prop := fun e w' => ∃ v u, K v ∧ e = .returned u ∧ v.rep w' ρ0 u ∧ Ext w0 w'
theorem fin_pure {c : Ctx} (h0 : c.w0 = w0) (hex : ∀ b, ¬ c.ex b) {w' : World} {ρ' : Env} {sl : Slots} {ob : Objs} {a : Act} {fn : Func} {rs : List RV} {K : V → Prop} (hb : Base c w' ρ') (ho : OM w' ρ' ob) (hs : SM w' ρ' sl a) (hx : ρ'.xo = own ρ0)
    (hc : chkRes P.p fn.results.toList rs = true) (h : resK sl ob rs fun vs => givsK (fun l _ => K (retV (l.map .d))) (V.givs ob vs)) : ∃ v, (results fn a.tmps).run P.p w' = .ok v w' ∧ pureR w0 ρ0 K (.returned v) w' := by
  obtain ⟨vs, us, hk, hrep, hrun⟩ := results_run (P := P.p) (fn := fn) hs ho hc h
  cases hgv : V.givs ob vs with
  | none => simp [hgv, givsK] at hk
  | some q =>
    obtain ⟨l, ob2⟩ := q
    simp only [hgv, givsK] at hk
    obtain ⟨ρ2, t2, o2, hr2⟩ := givs_temps vs us ho hrep hgv
    have mo2 : Mono w' (own ρ2) w' (own ρ0) := fun b h1 _ => ⟨rfl, fun h2 => h1 (.inr (by rw [t2.xo, hx]; exact h2))⟩
    have hrep' := allD_reps mo2 _ _ l rfl hr2
    have hext : Ext w0 w' := by subst h0; exact ⟨hb.size, fun b h => hb.keep b h (hex b), hb.tape, hb.os, hb.out⟩
    exact ⟨retU us, hrun, retV (l.map .d), retU us, hk, rfl, reps_retV hrep', hext⟩

theorem fwp_sound (hm : P.p.follows .mixedOrders = true) {c : Ctx} (hg : P.g = c.g) (h0 : c.w0 = w0) (hex : ∀ b, ¬ c.ex b) (hdf : c.df = []) (hm0 : ∀ id, c.m0 id = none) {fn : Func} {rs : List RV} {K : V → Prop} (hres : chkRes P.p fn.results.toList rs = true) :
    ∀ (code : Code) (s : FS) (sl : Slots) (ob : Objs) (ρ : Env) (a : Act) (w : World), FS.chk P.p c.N code s = true → fwp P rs K s sl ob → Mod c (own ρ0) ρ sl ob a w → code.wp P.p (bodyPostD P.p fn (pureR w0 ρ0 K)) a w
  | .seq x y, .pre s r, sl, ob, ρ, a, w, hc, h, m => by
    simp only [FS.chk, Bool.and_eq_true] at hc
    simp only [fwp] at h
    refine wp_seq (wp_mono (cwp_sound hm hg x s _ sl ob ρ a w hc.1 h m) ?_)
    rintro e a' w' ⟨ae, sl', ob', ρ', hq, he, m'⟩
    cases ae with
    | normal =>
      cases e <;> simp only [exM] at he
      exact fwp_sound hm hg h0 hex hdf hm0 hres y r sl' ob' ρ' a' w' hc.2 hq m'
    | exit n => exact hq.elim
    | ret =>
      cases e <;> simp only [exM] at he
      show Leaves _ _ _ _ a'.defers .returning w'
      rw [m'.df, hdf]
      exact fin_pure h0 hex m'.base m'.om m'.sm m'.xo hres hq
    | panic v => exact hq.elim
  | .seq (.region id ops false) y, .dfr its keep k s, sl, ob, ρ, a, w, hc, h, m => by
    simp only [FS.chk] at hc
    split at hc
    · rename_i o os hops
      simp only [Bool.and_eq_true, Option.isNone_iff_eq_none] at hc
      obtain ⟨⟨⟨⟨hop, hdst⟩, hgd⟩, hits⟩, hs⟩ := hc
      simp only [fwp] at h
      have hl : ops.toList = os.reverse ++ [o] := by
        have := congrArg List.reverse hops; simpa using this
      refine wp_seq (wp_region_list ?_)
      rw [hl]
      refine list_then hg (fun sl0 ob1 ρ1 a1 w1 hk m0 => ?_) os.reverse its sl ob ρ a w hits h m
      have m1 : Mod c (own ρ0) ρ1 (keepS sl0 keep) ob1 a1 w1 := ⟨m0.base, m0.om, m0.sm.keep keep, m0.size, m0.df, m0.xo, m0.gl⟩
      generalize keepS sl0 keep = sl1 at hk m1
      unfold dfrK at hk
      split at hk
      · rename_i g fi ca e1
        obtain ⟨hcall, hk⟩ := hk
        have hrep := m1.sm k
        rw [e1] at hrep
        have hrep0 := hrep
        rw [rep_fn] at hrep
        obtain ⟨fs, gs, hv, hr1, hr2⟩ := hrep
        obtain ⟨args, ts, hop'⟩ : ∃ args ts, o.op = .defer { callee := .value (.tmp k), args := args, argTypes := ts } ∧ args = #[] := by
          revert hop; generalize o.op = op; intro hop
          unfold dfrOp at hop
          split at hop
          · simp only [Bool.and_eq_true, beq_iff_eq] at hop
            obtain ⟨rfl, hop⟩ := hop
            exact ⟨_, _, rfl, by simpa using hop⟩
          · simp at hop
        obtain ⟨hop', rfl⟩ := hop'
        let d : Deferred := { target := .fn (.func g) gs.toArray, args := fs.toArray ++ #[] }
        have hrun : (execOp a1.eval o).run P.p w1 = .ok (.defer d) w1 := by
          have : a1.eval (.tmp k) = .func (.func g) fs.toArray gs.toArray := hv
          simp [execOp, hop', resolve, this, Deferred.ofValue, d]
        simp only [wpList, Region.wanted, hgd, if_true]
        left
        unfold Oper.wp
        rw [hrun]
        simp only [Oper.upon, hdst, Act.put]
        let c2 : Ctx := ⟨c.w0, c.ex, c.N, [d], c.g, c.m0, [(.fn g fi ca, .func (.func g) fs.toArray gs.toArray)]⟩
        have m2 : Mod c2 (own ρ0) ρ1 sl1 ob1 { a1 with defers := d :: a1.defers } w1 := by
          refine ⟨⟨m1.base.size, m1.base.keep, m1.base.owns, m1.base.tape, m1.base.os, m1.base.out, m1.base.same, fun p hp => ?_⟩, m1.om, m1.sm, m1.size, ?_, m1.xo, m1.gl⟩
          · simp only [c2, List.mem_singleton] at hp
            subst hp
            rw [hv] at hrep0
            exact hrep0
          · show d :: a1.defers = [d]; rw [m1.df, hdf]
        show Code.wp _ _ _ _ _
        refine wp_mono (cwp_sound hm (c := c2) hg y s _ _ _ ρ1 _ w1 hs hk m2) ?_
        rintro e a' w' ⟨ae, sl', ob', ρ', hq, he, m'⟩
        have hclo : V.reps w' ρ' (fi ++ ca) (fs ++ gs) := by
          have := m'.base.ext (.fn g fi ca, .func (.func g) fs.toArray gs.toArray) (by simp [c2])
          simp only at this
          rw [rep_fn] at this
          obtain ⟨fs', gs', e2, q1, q2⟩ := this
          simp only [Value.func.injEq, true_and] at e2
          obtain ⟨e3, e4⟩ := e2
          have e3 : fs = fs' := by simpa using congrArg Array.toList e3
          have e4 : gs = gs' := by simpa using congrArg Array.toList e4
          subst e3 e4
          exact reps_append q1 q2
        have hinv : ∀ w, (invoke d.target d.args).run P.p w = .ok (.enter g (fs ++ gs).toArray) w := fun w => by
          simp only [d, invoke, callFunc_run hcall]
          simp
        have hd : a'.defers = [d] := m'.df
        have after : ∀ (w'' : World) (ob2 : Objs) (ρ2 : Env), (resK sl' ob2 rs fun vs => givsK (fun l _ => K (retV (l.map .d))) (V.givs ob2 vs)) → OM w'' ρ2 ob2 → Tr w' ρ' w'' ρ2 → Leaves P.p fn a'.tmps (pureR w0 ρ0 K) [] .returning w'' := by
          intro w'' ob2 ρ2 hq o2 t2
          exact fin_pure (c := c2) h0 hex (m'.base.tr t2) o2 (m'.sm.tr t2) (t2.xo.trans m'.xo) hres hq
        have hgl : ρ'.gl = P.g := m'.gl.trans hg.symm
        have hret : DCall P g (fi ++ ca) ob' none (fun ob' => resK sl' ob' rs fun vs => givsK (fun l _ => K (retV (l.map .d))) (V.givs ob' vs)) → Leaves P.p fn a'.tmps (pureR w0 ρ0 K) a'.defers .returning w' := by
          intro hq
          rw [hd]
          refine leaves_cons (fv := .func g) (cap := gs.toArray) (dargs := fs.toArray ++ #[]) (by simp) (hinv w') ((hq.ret rfl w' ρ' (fs ++ gs) m'.om hgl hclo).mono ?_)
          rintro e u w'' ⟨⟨v, rfl⟩, rfl, ob2, ρ2, k2, o2, t2⟩
          exact after w'' ob2 ρ2 k2 o2 t2
        cases ae with
        | normal => cases e <;> simp only [exM] at he; exact hret hq
        | ret => cases e <;> simp only [exM] at he; exact hret hq
        | exit n => exact hq.elim
        | panic v =>
          cases e <;> simp only [exM] at he
          obtain ⟨u, rfl, hu⟩ := he
          obtain ⟨⟨t, y, hty⟩, hq⟩ := hq
          have hix : ∃ t y, u = .iface t y := by
            rcases hty with rfl | ⟨z, rfl⟩
            · rw [rep_leaf (by simp [V.isAgg]) (by simp)] at hu
              simp only [V.repC, List.cons.injEq, and_true] at hu
              obtain ⟨c, hu, _⟩ := hu
              exact ⟨_, _, hu⟩
            · rw [rep_difc] at hu
              obtain ⟨c, hu, _⟩ := hu
              exact ⟨_, _, hu⟩
          show Leaves _ _ _ _ a'.defers _ w'
          rw [hd]
          refine leaves_cons (fv := .func g) (cap := gs.toArray) (dargs := fs.toArray ++ #[]) (by simp) (hinv w') ((hq.pan v rfl w' ρ' (fs ++ gs) u m'.om hgl hclo hu hix).mono ?_)
          rintro e u' w'' ⟨⟨v', rfl⟩, rfl, ob2, ρ2, k2, o2, t2⟩
          exact after w'' ob2 ρ2 k2 o2 t2
      · exact hk.elim
    · simp at hc
  | .skip, _, _, _, _, _, _, hc, _, _ | .region _ _ _, _, _, _, _, _, _, hc, _, _ | .cond _ _ _, _, _, _, _, _, _, hc, _, _ | .block _ _, _, _, _, _, _, _, hc, _, _ | .loop _, _, _, _, _, _, _, hc, _, _ | .rangeFunc _ _ _ _, _, _, _, _, _, _, hc, _, _ | .exit _, _, _, _, _, _, _, hc, _, _ | .scope _, _, _, _, _, _, _, hc, _, _ | .label _, _, _, _, _, _, _, hc, _, _ | .goto _, _, _, _, _, _, _, hc, _, _ | .ret, _, _, _, _, _, _, hc, _, _ | .refuse _, _, _, _, _, _, _, hc, _, _ => by simp [FS.chk] at hc
  | .seq (.region _ _ true) _, .dfr _ _ _ _, _, _, _, _, _, hc, _, _ | .seq .skip _, .dfr _ _ _ _, _, _, _, _, _, hc, _, _ | .seq (.seq _ _) _, .dfr _ _ _ _, _, _, _, _, _, hc, _, _ | .seq (.cond _ _ _) _, .dfr _ _ _ _, _, _, _, _, _, hc, _, _ | .seq (.block _ _) _, .dfr _ _ _ _, _, _, _, _, _, hc, _, _ | .seq (.loop _) _, .dfr _ _ _ _, _, _, _, _, _, hc, _, _ | .seq (.rangeFunc _ _ _ _) _, .dfr _ _ _ _, _, _, _, _, _, hc, _, _ | .seq (.exit _) _, .dfr _ _ _ _, _, _, _, _, _, hc, _, _ | .seq (.scope _) _, .dfr _ _ _ _, _, _, _, _, _, hc, _, _ | .seq (.label _) _, .dfr _ _ _ _, _, _, _, _, _, hc, _, _ | .seq (.goto _) _, .dfr _ _ _ _, _, _, _, _, _, hc, _, _ | .seq .ret _, .dfr _ _ _ _, _, _, _, _, _, hc, _, _ | .seq (.refuse _) _, .dfr _ _ _ _, _, _, _, _, _, hc, _, _ => by simp [FS.chk] at hc

/-- **A function of data that defers one call.** -/
theorem pcall_defer (hm : P.p.follows .mixedOrders = true) {f : Nat} {s : FS} {rs : List RV} {ds : List D} {ob0 : Objs} {K : V → Prop} (hc : fnOkD P.p f ds.length s rs = true)
    (h : fwp P rs K s (argS 0 (ds.map .d)) []) : PCall P f (ds.map .d) ob0 K := by
  unfold fnOkD at hc
  split at hc
  · rename_i fn hf
    split at hc
    · rename_i code hb
      simp only [Bool.and_eq_true, decide_eq_true_eq] at hc
      obtain ⟨⟨hn, h1⟩, h2⟩ := hc
      refine ⟨fun w ρ args hO hg hr => ?_⟩
      let ρ1 : Env := ⟨fun _ => none, own ρ, ρ.gl⟩
      let c : Ctx := ⟨w, fun _ => False, fn.ntmps, [], P.g, fun _ => none, []⟩
      have hnone : ∀ b, ¬ ownM ρ1 b := fun b ⟨_, _, h, _⟩ => by cases h
      have hlt : ∀ b, own ρ b → b < w.heap.size := fun b h => h.elim (fun ⟨_, _, h1, h2⟩ => own_lt hO h1 h2) (hO.xlt b)
      have mo : Mono w (own ρ) w (own ρ1) := fun b h1 _ => ⟨rfl, fun h2 => h2.elim (hnone b) h1⟩
      have hr0 := allD_reps mo _ _ ds rfl hr
      have hlen : args.length = ds.length := by simpa using reps_length hr
      have m : Mod c (own ρ) ρ1 (argS 0 (ds.map .d)) [] { tmps := args.toArray ++ Array.replicate (fn.ntmps - args.toArray.size) undef, defers := [] } w := by
        refine ⟨⟨Nat.le_refl _, fun _ _ _ => rfl, fun b h => absurd h (hnone b), rfl, rfl, rfl, (fun id o h => by cases h), (fun p hp => by cases hp)⟩, ⟨fun j x hx => (by simp [lookO] at hx), fun j o hj => (by cases hj), fun i j o p b hi => (by cases hi), fun b hb => hlt b hb, fun b o hb => ⟨(hO.glb b o hb).1, fun h => h.elim (hnone b) (hO.glb b o hb).2⟩, fun b hb => absurd hb (hnone b), trivial⟩, ?_, ?_, rfl, rfl, hg⟩
        · refine argS_rep hr0 0 _ (fun i hi => ?_)
          simp [Array.getElem?_append, hi]
        · simp [c]; omega
      exact calls_of_wp_defers hf hb (fwp_sound (w0 := w) (ρ0 := ρ) hm (c := c) rfl rfl (fun _ h => h) rfl (fun _ => rfl) h2 code s _ _ _ _ w h1 h m)
    · simp at hc
  · simp at hc
end

/-! Folded -/
inductive FS2 where
  | pre (s : S2) (r : FS2)
  | dfr (l : List It2) (keep : List (Nat × E)) (k : Nat) (s : S2)
def FS.lift (fs : List Nat) : FS → Option FS2
  | .pre s r => match s.lift fs, r.lift fs with
    | some s, some r => some (.pre s r)
    | _, _ => none
  | .dfr its kp k s => match liftR fs kp [] its [] [] [], s.lift fs with
    | some (l, keep), some s => some (.dfr l keep k s)
    | _, _ => none
def dfrK2 (P : Prg) (T : Tab) (s : S2) (rs : List RV) (K : V → Prop) (sl : Slots) (ob : Objs) : V → Prop
  | .fn g fi ca => callable P.p g = true ∧ cwp2 P T s (dferQ P g (fi ++ ca) rs K) sl ob
  | _ => False
def fwp2 (P : Prg) (T : Tab) (rs : List RV) (K : V → Prop) : FS2 → Slots → Objs → Prop
  | .pre s r, sl, ob => cwp2 P T s (thenK (fwp2 P T rs K r) (pureQ rs K)) sl ob
  | .dfr l keep k s, sl, ob => rwp2 P T (fun sl ob => keepOk T sl ob keep ∧ dfrK2 P T s rs K (keepE T sl ob keep) ob (look (keepE T sl ob keep) k)) (fun _ _ _ => False) l sl ob

theorem inv0 {T : Tab} {sl : Slots} {ob : Objs} : Inv T [] sl sl ob := fun k p e h => by
  simp [ent, lookG] at h; obtain ⟨rfl, rfl⟩ := h; exact ⟨fun _ => rfl, fun h => by cases h⟩

theorem FS.lift_sound {P : Prg} {T : Tab} (hT : TOk P T) {fs : List Nat} {rs : List RV} {K : V → Prop} : ∀ (s : FS) {s2 : FS2} {sl : Slots} {ob : Objs}, s.lift fs = some s2 → fwp2 P T rs K s2 sl ob → fwp P rs K s sl ob
  | .pre s r, s2, sl, ob, h, hc => by
    simp only [FS.lift] at h
    split at h
    · rename_i s' r' hs hr
      cases h
      simp only [fwp2] at hc
      simp only [fwp]
      refine S.lift_sound hT s hs (fun e sl ob h => ?_) hc
      cases e with
      | normal => exact FS.lift_sound hT r hr h
      | _ => exact h
    · cases h
  | .dfr its kp k s, s2, sl, ob, h, hc => by
    simp only [FS.lift] at h
    split at h
    · rename_i l keep s' hl hs
      cases h
      simp only [fwp2] at hc
      simp only [fwp]
      have hmono : ∀ sl ob, dfrK2 P T s' rs K sl ob (look sl k) → dfrK P s rs K sl ob (look sl k) := fun sl ob h => by
        unfold dfrK2 at h
        split at h
        · rename_i g fi ca e1
          simp only [dfrK, e1]
          exact ⟨h.1, S.lift_sound hT s hs (fun _ _ _ h => h) h.2⟩
        · exact h.elim
      have := liftR_sound (pk := []) hT (K := fun sl ob => dfrK2 P T s' rs K sl ob (look sl k)) (K' := fun sl ob => dfrK P s rs K sl ob (look sl k)) (Pn := fun _ _ _ => False) (Pn' := fun _ _ _ => False) hmono (fun _ _ _ h => h) its inv0 hl hc
      exact this
    · cases h

theorem pcall_defer_lift {P : Prg} {p : Program} (hP : P.p = p) (hm : p.follows .mixedOrders = true) {f : Nat} {s : FS} {rs : List RV} {ds : List D} {ob0 : Objs} {K : V → Prop} {fs : List Nat} {s2 : FS2} {T : Tab} (hc : fnOkD p f ds.length s rs = true) (hl : s.lift fs = some s2) (hT : TOk P T)
    (h : fwp2 P T rs K s2 (argS 0 (ds.map .d)) []) : PCall P f (ds.map .d) ob0 K := by
  subst hP
  exact pcall_defer hm hc (FS.lift_sound hT s hl h)

/-- a deferred function, folded -/
theorem dcall_lift {P : Prg} {p : Program} (hP : P.p = p) (hm : p.follows .mixedOrders = true) {f k : Nat} {its : List It} {s : S} {vs : List V} {ob : Objs} {rv : Option V} {K : Objs → Prop} {fs keep : List Nat} {l : List It2} {kp : List (Nat × E)} {s2 : S2} {T : Tab} (hc : dfnOk p f vs.length k its s = true)
    (hl : liftR fs keep [] its [] [] [] = some (l, kp)) (hs : s.lift fs = some s2) (hT : TOk P T)
    (h : rwp2 P T (fun sl ob' => keepOk T sl ob' kp ∧ cwp2 P T s2 (dQ (fresh ob) K) (keepE T sl ob' kp) ob') (fun _ _ _ => False) l ((k, rv.getD (.d .nili)) :: argS 0 vs) ob) : DCall P f vs ob rv K := by
  subst hP
  refine dcall_walk hm (keep := keep) hc ?_
  have := liftR_sound (pk := []) hT (K := fun sl ob' => cwp2 P T s2 (dQ (fresh ob) K) sl ob') (K' := fun sl ob' => cwp P s (dQ (fresh ob) K) sl ob') (Pn := fun _ _ _ => False) (Pn' := fun _ _ _ => False) (fun sl ob h => S.lift_sound hT s hs (fun _ _ _ h => h) h) (fun _ _ _ h => h) its inv0 hl h
  exact this

section
variable (P : Prg) (T : Tab) (sl : Slots) (ob : Objs) (rs : List RV) (K : V → Prop) (KB : Objs → Prop) (n k g : Nat) (v : V) (cl : List V)
@[simp] theorem fwp2_pre (s : S2) (r : FS2) : fwp2 P T rs K (.pre s r) sl ob = cwp2 P T s (thenK (fwp2 P T rs K r) (pureQ rs K)) sl ob := by simp only [fwp2]
@[simp] theorem fwp2_dfr (l : List It2) (kp : List (Nat × E)) (s : S2) : fwp2 P T rs K (.dfr l kp k s) sl ob = rwp2 P T (fun sl ob => keepOk T sl ob kp ∧ dfrK2 P T s rs K (keepE T sl ob kp) ob (look (keepE T sl ob kp) k)) (fun _ _ _ => False) l sl ob := by simp only [fwp2]
@[simp] theorem dfrK2_f (s : S2) (fi ca : List V) : dfrK2 P T s rs K sl ob (.fn g fi ca) = (callable P.p g = true ∧ cwp2 P T s (dferQ P g (fi ++ ca) rs K) sl ob) := by simp only [dfrK2]
@[simp] theorem dferQ_n : dferQ P g cl rs K .normal sl ob = DCall P g cl ob none fun ob' => resK sl ob' rs fun vs => givsK (fun l _ => K (retV (l.map .d))) (V.givs ob' vs) := by simp only [dferQ]
@[simp] theorem dferQ_r : dferQ P g cl rs K .ret sl ob = DCall P g cl ob none fun ob' => resK sl ob' rs fun vs => givsK (fun l _ => K (retV (l.map .d))) (V.givs ob' vs) := by simp only [dferQ]
@[simp] theorem dferQ_e : dferQ P g cl rs K (.exit n) sl ob = False := by simp only [dferQ]
theorem dferQ_p : dferQ P g cl rs K (.panic v) sl ob = ((∃ t y, v = .iface t y ∨ ∃ z, v = .d (.iface t z)) ∧ DCall P g cl ob (some v) fun ob' => resK sl ob' rs fun vs => givsK (fun l _ => K (retV (l.map .d))) (V.givs ob' vs)) := by simp only [dferQ]
@[simp] theorem dferQ_pd (t : Nat) (z : D) : dferQ P g cl rs K (.panic (.d (.iface t z))) sl ob = DCall P g cl ob (some (.d (.iface t z))) fun ob' => resK sl ob' rs fun vs => givsK (fun l _ => K (retV (l.map .d))) (V.givs ob' vs) := by
  rw [dferQ_p, eq_iff_iff]; exact ⟨fun h => h.2, fun h => ⟨⟨t, .any, .inr ⟨z, rfl⟩⟩, h⟩⟩
@[simp] theorem dQ_n : dQ n KB .normal sl ob = leaveK n KB [] ob := by simp only [dQ]
@[simp] theorem dQ_r : dQ n KB .ret sl ob = leaveK n KB [] ob := by simp only [dQ]
@[simp] theorem dQ_e : dQ n KB (.exit k) sl ob = False := by simp only [dQ]
@[simp] theorem dQ_p : dQ n KB (.panic v) sl ob = False := by simp only [dQ]
end
@[congr] theorem DCall_congr {P : Prg} {f : Nat} {vs vs' : List V} {ob ob' : Objs} {rv rv' : Option V} {K : Objs → Prop} (h : vs = vs') (h' : ob = ob') (h2 : rv = rv') : DCall P f vs ob rv K = DCall P f vs' ob' rv' K := by rw [h, h', h2]
@[congr] theorem dfrK2_congr {P : Prg} {T : Tab} {s : S2} {rs : List RV} {K : V → Prop} {sl sl' : Slots} {ob ob' : Objs} {v v' : V} (h : sl = sl') (h' : ob = ob') (h2 : v = v') : dfrK2 P T s rs K sl ob v = dfrK2 P T s rs K sl' ob' v' := by rw [h, h', h2]
@[congr] theorem fwp2_congr {P : Prg} {T : Tab} {rs : List RV} {K : V → Prop} {s : FS2} {sl sl' : Slots} {ob ob' : Objs} (h : sl = sl') (h' : ob = ob') : fwp2 P T rs K s sl ob = fwp2 P T rs K s sl' ob' := by rw [h, h']
end Go.Ab
