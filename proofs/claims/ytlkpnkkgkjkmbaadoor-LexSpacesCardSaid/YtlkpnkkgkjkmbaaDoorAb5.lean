/- That the operations that only read do what Ab4 says of them. Over any program; no condition. -/
import Derived.Test.YtlkpnkkgkjkmbaaDoorAb4
import Derived.Laws.Concat
namespace Go.Ab
open Go

/-- 'l': does it look into memory? -/
def YieldsAt (l : Bool) (P : Program) (a : Act) (w : World) (ρ : Env) (op : Op) (K : V → Prop) : Prop :=
  ∃ v x, K x ∧ x.rep w ρ v ∧ ∀ (o : Oper), o.op = op → ∀ w', (l = true → Ext w w') → (execOp a.eval o).run P w' = .ok (.value v) w'
abbrev Yields := YieldsAt false

section
variable {P : Program} {a : Act} {w : World} {ρ : Env} {sl : Slots} {objs : Objs} {K : V → Prop}

theorem underlying_run {t : TypeId} {d : TypeDesc} (h : P.underlying t = some d) (w' : World) : (underlying t).run P w' = .ok d w' := by
  simp [underlying, h]
theorem info_size {t : TypeId} {n : Nat} (h : sizeT P t = some n) (w' : World) : (sizeOf t).run P w' = .ok n w' := by
  unfold sizeT at h
  cases hi : P.info? t with
  | none => simp [hi] at h
  | some i => simp [hi] at h; simp [sizeOf, typeInfo, hi, h]
theorem isAgg_run {t : TypeId} (h : (P.underlying t).isSome = true) (w' : World) : (isAgg t).run P w' = .ok (agT P t) w' := by
  obtain ⟨d, hd⟩ := Option.isSome_iff_exists.1 h
  simp only [isAgg, agT, Sem.run_bind, underlying_run hd, Result.andThen_ok, hd]
  cases d <;> simp

theorem sound_mv (hs : SM w ρ sl a) {x : A} {op : Op} (hc : C.chk P op (.mv x) = true) (h : K (x.ev sl)) : Yields P a w ρ op K := by
  cases op <;> simp [C.chk] at hc
  all_goals exact ⟨_, _, h, A.sound hs hc, fun o ho w' _ => by simp [execOp, ho]⟩

theorem sound_pick (hs : SM w ρ sl a) {c x y : A} {op : Op} (hc : C.chk P op (.pick c x y) = true) (h : pickK K (c.ev sl) (x.ev sl) (y.ev sl)) : Yields P a w ρ op K := by
  cases op <;> simp [C.chk] at hc
  rename_i oc ox oy
  obtain ⟨⟨h1, h2⟩, h3⟩ := hc
  have r1 := A.sound hs h1
  have r2 := A.sound hs h2
  have r3 := A.sound hs h3
  generalize c.ev sl = vc at *
  generalize x.ev sl = vx at *
  generalize y.ev sl = vy at *
  have key : ∀ t : Bool, vc = .d (.bool t) → (t = true → K vx) → (t = false → K vy) → Yields P a w ρ (.pick oc ox oy) K := by
    intro t e k1 k2
    subst e
    rw [rep_bool] at r1
    cases t with
    | true => exact ⟨_, vx, k1 rfl, r2, fun o ho w' _ => by simp [execOp, ho, r1, asBool]⟩
    | false => exact ⟨_, vy, k2 rfl, r3, fun o ho w' _ => by simp [execOp, ho, r1, asBool]⟩
  unfold pickK at h
  split at h
  · rename_i t b1 b2
    refine key t rfl (fun e => ?_) (fun e => ?_) <;> subst e <;> simpa using h
  · exact key _ rfl h.1 h.2
  · exact h.elim

theorem sound_not (hs : SM w ρ sl a) {x : A} {op : Op} (hc : C.chk P op (.not x) = true) (h : notK K (x.ev sl)) : Yields P a w ρ op K := by
  cases op <;> simp [C.chk] at hc
  rename_i u t y
  cases u <;> simp at hc
  have r1 := A.sound hs hc
  unfold notK at h
  split at h
  · rename_i b hb
    rw [hb, rep_bool] at r1
    exact ⟨.bool (!b), _, h, rep_bool.2 rfl, fun o ho w' _ => by simp [execOp, ho, r1, Op.unary]⟩
  · exact h.elim

theorem sound_neg (hs : SM w ρ sl a) {x : A} {op : Op} (hc : C.chk P op (.neg x) = true) (h : negK K (x.ev sl)) : Yields P a w ρ op K := by
  cases op <;> simp [C.chk] at hc
  rename_i u t y
  cases u <;> simp at hc
  have r1 := A.sound hs hc
  unfold negK at h
  split at h
  · rename_i k n hb
    rw [hb, rep_int] at r1
    exact ⟨_, _, h, rep_int.2 rfl, fun o ho w' _ => by simp [execOp, ho, r1, Op.unary, Op.intArith]⟩
  · exact h.elim

theorem eqGuard_int (op : BinOp) (t : TypeId) (x y : Operand) (k : IntKind) (n : Int) (v : Value) (w' : World) : (eqGuard op t x y (.int k n) v).run P w' = .ok () w' := by
  cases op <;> simp [eqGuard]
theorem eqGuard_string (op : BinOp) (t : TypeId) (x y : Operand) (s : ByteArray) (v : Value) (w' : World) : (eqGuard op t x y (.string s) v).run P w' = .ok () w' := by
  cases op <;> simp [eqGuard]
theorem eqGuard_bool (op : BinOp) (t : TypeId) (x y : Operand) (b : Bool) (v : Value) (w' : World) : (eqGuard op t x y (.bool b) v).run P w' = .ok () w' := by
  cases op <;> simp [eqGuard]
theorem eqGuard_iface (op : BinOp) (t : TypeId) (x y : Operand) (u : TypeId) (b v : Value) (w' : World) : (eqGuard op t x y (.iface u b) v).run P w' = .ok () w' := by
  cases op <;> simp [eqGuard]

theorem byteSize (s : List UInt8) : (ByteArray.mk s.toArray).size = s.length := by
  show s.toArray.size = _; simp

theorem toList_mk (l : List UInt8) : ByteArray.toList ⟨l.toArray⟩ = l := by
  simp [ByteArray.toList_eq]

theorem sound_bin (hs : SM w ρ sl a) {op' : BinOp} {x y : A} {op : Op} (hc : C.chk P op (.bin op' x y) = true) (h : binK op' K (x.ev sl) (y.ev sl)) : Yields P a w ρ op K := by
  cases op <;> simp [C.chk] at hc
  rename_i o1 t x1 y1 t2
  obtain ⟨⟨rfl, h1⟩, h2⟩ := hc
  have r1 := A.sound hs h1
  have r2 := A.sound hs h2
  generalize x.ev sl = vx at *
  generalize y.ev sl = vy at *
  unfold binK at h
  split at h
  · rename_i k n k' m
    rw [rep_int] at r1 r2
    cases op' <;> simp only [intK] at h
    all_goals first
      | (obtain ⟨rfl, h⟩ := h; first
          | exact ⟨_, _, h, rep_int.2 rfl, fun o ho w' _ => by simp [execOp, ho, r1, r2, eqGuard_int, binOp, Op.intArith, Op.intBits, bitsI]⟩
          | exact ⟨_, _, h, rep_bool.2 rfl, fun o ho w' _ => by simp [execOp, ho, r1, r2, eqGuard_int, binOp, Op.intCmp]⟩
          | (obtain ⟨hm, h⟩ := h; exact ⟨_, _, h, rep_int.2 rfl, fun o ho w' _ => by simp [execOp, ho, r1, r2, eqGuard_int, binOp, Op.intDiv, hm]⟩))
      | (obtain ⟨hm, h⟩ := h; exact ⟨_, _, h, rep_int.2 rfl, fun o ho w' _ => by simp [execOp, ho, r1, r2, eqGuard_int, binOp, Op.shift, show ¬ m < 0 by omega]⟩)
  · rename_i s1 s2
    rw [rep_str] at r1 r2
    cases op' <;> simp only [strK] at h
    all_goals first
      | exact ⟨_, _, h, rep_bool.2 rfl, fun o ho w' _ => by simp [execOp, ho, r1, r2, eqGuard_string, binOp, Op.stringOp, bne]⟩
      | (exact h.elim; done)
      | skip
    obtain ⟨hm, h⟩ := h
    refine ⟨_, _, h, rep_str.2 rfl, fun o ho w' _ => ?_⟩
    simp only [execOp, ho, r1, r2, eqGuard_string, binOp, Sem.run_bind, Result.andThen_ok]
    rw [run_string_add_sum _ _ _ (by simpa [ByteArray.size] using hm)]
    simp [ByteArray.mk_append_mk]
  · exact h.elim

theorem equal_bool {t : TypeId} (ht : P.underlying t = some .bool) (x y : Bool) (w' : World) : (Op.equal t (.bool x) (.bool y)).run P w' = .ok (x == y) w' := by
  have : ∀ d, (Op.equalIn (d + 1) t (.bool x) (.bool y)).run P w' = .ok (x == y) w' := fun d => by simp [Op.equalIn, underlying_run ht]
  exact this 9999
theorem equal_nn {t : TypeId} {ms : Array (String × TypeId)} (ht : P.underlying t = some (.interface ms)) (w' : World) : (Op.equal t .nilIface .nilIface).run P w' = .ok true w' := by
  have : ∀ d, (Op.equalIn (d + 1) t .nilIface .nilIface).run P w' = .ok true w' := fun d => by simp [Op.equalIn, underlying_run ht]
  exact this 9999
theorem equal_in {t : TypeId} {ms : Array (String × TypeId)} (ht : P.underlying t = some (.interface ms)) (u : TypeId) (c : Value) (w' : World) : (Op.equal t (.iface u c) .nilIface).run P w' = .ok false w' := by
  have : ∀ d, (Op.equalIn (d + 1) t (.iface u c) .nilIface).run P w' = .ok false w' := fun d => by simp [Op.equalIn, underlying_run ht]
  exact this 9999
theorem eqGuard_nil (op : BinOp) (t : TypeId) (x : Operand) (c : Value) (w' : World) : (eqGuard op t x (.const c) .nilIface .nilIface).run P w' = .ok () w' := by
  cases op <;> simp [eqGuard]

theorem sound_beq (hs : SM w ρ sl a) {e : Bool} {x y : A} {op : Op} (hc : C.chk P op (.beq e x y) = true) (h : beqK e K (x.ev sl) (y.ev sl)) : Yields P a w ρ op K := by
  cases op <;> simp [C.chk] at hc
  rename_i o1 t x1 y1 t2
  obtain ⟨⟨⟨h0, h3⟩, h1⟩, h2⟩ := hc
  have r1 := A.sound hs h1
  have r2 := A.sound hs h2
  have ht : P.underlying t = some .bool := by revert h3; split <;> simp_all
  unfold beqK at h
  split at h
  · rename_i b1 b2 e1 e2
    rw [e1, rep_bool] at r1
    rw [e2, rep_bool] at r2
    refine ⟨_, _, h, rep_bool.2 rfl, fun o ho w' _ => ?_⟩
    subst h0
    cases e <;> simp [execOp, ho, r1, r2, eqGuard_bool, binOp, equal_bool ht]
  · exact h.elim

theorem sound_isnil (hs : SM w ρ sl a) {e : Bool} {x : A} {op : Op} (hc : C.chk P op (.isnil e x) = true) (h : isnilK e K (x.ev sl)) : Yields P a w ρ op K := by
  cases op <;> simp [C.chk] at hc
  rename_i o1 t x1 y1 t2
  obtain ⟨⟨⟨h0, h3⟩, h1⟩, h2⟩ := hc
  have r1 := A.sound hs h1
  obtain ⟨ms, ht⟩ : ∃ ms, P.underlying t = some (.interface ms) := by revert h3; split <;> simp_all
  have hy : y1 = .const .nilIface := by revert h2; split <;> simp_all
  subst hy
  have hk : a.eval (.const .nilIface) = .nilIface := rfl
  unfold isnilK at h
  split at h
  · rename_i e1
    rw [e1, rep_nili] at r1
    refine ⟨_, _, h, rep_bool.2 rfl, fun o ho w' _ => ?_⟩
    subst h0
    cases e <;> simp [execOp, ho, r1, hk, eqGuard_nil, binOp, equal_nn ht]
  · rename_i u v e1
    rw [e1] at r1
    rw [rep_leaf (by simp [V.isAgg]) (by simp)] at r1
    simp only [V.repC, List.cons.injEq, and_true] at r1
    obtain ⟨c, r1, _⟩ := r1
    refine ⟨_, _, h, rep_bool.2 rfl, fun o ho w' _ => ?_⟩
    subst h0
    cases e <;> simp [execOp, ho, r1, hk, eqGuard_iface, binOp, equal_in ht]
  · rename_i u v e1
    rw [e1, rep_difc] at r1
    obtain ⟨c, r1, _⟩ := r1
    refine ⟨_, _, h, rep_bool.2 rfl, fun o ho w' _ => ?_⟩
    subst h0
    cases e <;> simp [execOp, ho, r1, hk, eqGuard_iface, binOp, equal_in ht]
  · exact h.elim

theorem equal_pp {t e : TypeId} (ht : P.underlying t = some (.pointer e)) (x : Option Addr) (w' : World) : (Op.equal t (.pointer x) (.pointer none)).run P w' = .ok x.isNone w' := by
  have : ∀ d, (Op.equalIn (d + 1) t (.pointer x) (.pointer none)).run P w' = .ok x.isNone w' := fun d => by cases x <;> simp [Op.equalIn, underlying_run ht]
  exact this 9999
theorem eqGuard_ptr (op : BinOp) (t : TypeId) (x y : Operand) (b : Option Addr) (v : Value) (w' : World) : (eqGuard op t x y (.pointer b) v).run P w' = .ok () w' := by
  cases op <;> simp [eqGuard]
theorem equal_ff {t : TypeId} {ps rs : Array TypeId} {vr : Bool} (ht : P.underlying t = some (.func ps rs vr)) (w' : World) : (Op.equal t .nilFunc .nilFunc).run P w' = .ok true w' := by
  have : ∀ d, (Op.equalIn (d + 1) t .nilFunc .nilFunc).run P w' = .ok true w' := fun d => by simp [Op.equalIn, underlying_run ht]
  exact this 9999
theorem equal_fn {t : TypeId} {ps rs : Array TypeId} {vr : Bool} (ht : P.underlying t = some (.func ps rs vr)) (f : Go.Fn) (a b : Array Value) (w' : World) : (Op.equal t (.func f a b) .nilFunc).run P w' = .ok false w' := by
  have : ∀ d, (Op.equalIn (d + 1) t (.func f a b) .nilFunc).run P w' = .ok false w' := fun d => by simp [Op.equalIn, underlying_run ht]
  exact this 9999
theorem eqGuard_nf (op : BinOp) (t : TypeId) (x y : Operand) (v : Value) (w' : World) : (eqGuard op t x y .nilFunc v).run P w' = .ok () w' := by
  cases op <;> simp [eqGuard]
theorem eqGuard_fn (op : BinOp) (t : TypeId) (x y : Operand) (f : Go.Fn) (c d : Array Value) (v : Value) (w' : World) : (eqGuard op t x y (.func f c d) v).run P w' = .ok () w' := by
  cases op <;> simp [eqGuard]

theorem sound_pnil (hs : SM w ρ sl a) {e : Bool} {x : A} {op : Op} (hc : C.chk P op (.pnil e x) = true) (h : pnilK e K (x.ev sl)) : Yields P a w ρ op K := by
  cases op <;> simp [C.chk] at hc
  rename_i o1 t x1 y1 t2
  obtain ⟨⟨⟨h0, h3⟩, h1⟩, h2⟩ := hc
  have r1 := A.sound hs h1
  obtain ⟨el, ht⟩ : ∃ el, P.underlying t = some (.pointer el) := by revert h3; split <;> simp_all
  have hy : y1 = .const (.pointer none) := by revert h2; split <;> simp_all
  subst hy
  have hk : a.eval (.const (.pointer none)) = .pointer none := rfl
  have key : ∀ (q : Option Addr) (b : Bool), a.eval x1 = .pointer q → q.isNone = b → K (.d (.bool (b == e))) → Yields P a w ρ (.binOp o1 t x1 (.const (.pointer none)) t2) K := by
    intro q b hq hb hK
    refine ⟨_, _, hK, rep_bool.2 rfl, fun o ho w' _ => ?_⟩
    subst h0 hb
    cases e <;> cases q <;> simp [execOp, ho, hq, hk, eqGuard_ptr, binOp, equal_pp ht]
  unfold pnilK at h
  split at h
  · rename_i e1
    rw [e1, rep_nilp] at r1
    exact key none true r1 rfl (by cases e <;> exact h)
  · rename_i y e1
    rw [e1, rep_cp] at r1
    obtain ⟨ad, vs, r1, _⟩ := r1
    exact key _ false r1 rfl (by cases e <;> exact h)
  · rename_i id p e1
    rw [e1] at r1
    obtain ⟨ad, r1⟩ := rep_ptr_some r1
    exact key _ false r1 rfl (by cases e <;> exact h)
  · exact h.elim

theorem sound_fnil (hs : SM w ρ sl a) {e : Bool} {x : A} {op : Op} (hc : C.chk P op (.fnil e x) = true) (h : fnilK e K (x.ev sl)) : Yields P a w ρ op K := by
  cases op <;> simp [C.chk] at hc
  rename_i o1 t x1 y1 t2
  obtain ⟨⟨⟨h0, h3⟩, h1⟩, h2⟩ := hc
  have r1 := A.sound hs h1
  obtain ⟨ps, rs, vr, ht⟩ : ∃ ps rs vr, P.underlying t = some (.func ps rs vr) := by revert h3; split <;> simp_all
  have hy : y1 = .const .nilFunc := by revert h2; split <;> simp_all
  subst hy
  have hk : a.eval (.const .nilFunc) = .nilFunc := rfl
  unfold fnilK at h
  split at h
  · rename_i e1
    rw [e1, rep_nilf] at r1
    refine ⟨_, _, h, rep_bool.2 rfl, fun o ho w' _ => ?_⟩
    subst h0
    cases e <;> simp [execOp, ho, r1, hk, eqGuard_nf, binOp, equal_ff ht]
  · rename_i f fi ca e1
    rw [e1, rep_dfn] at r1
    obtain ⟨fs, gs, r1, _⟩ := r1
    refine ⟨_, _, h, rep_bool.2 rfl, fun o ho w' _ => ?_⟩
    subst h0
    cases e <;> simp [execOp, ho, r1, hk, eqGuard_fn, binOp, equal_fn ht]
  · rename_i f fi ca e1
    rw [e1, rep_fn] at r1
    obtain ⟨fs, gs, r1, _⟩ := r1
    refine ⟨_, _, h, rep_bool.2 rfl, fun o ho w' _ => ?_⟩
    subst h0
    cases e <;> simp [execOp, ho, r1, hk, eqGuard_fn, binOp, equal_fn ht]
  · exact h.elim

theorem sound_cvi (hs : SM w ρ sl a) {k : IntKind} {x : A} {op : Op} (hc : C.chk P op (.cvi k x) = true) (h : cviK k K (x.ev sl)) : Yields P a w ρ op K := by
  cases op <;> simp [C.chk] at hc
  rename_i s t x1
  obtain ⟨⟨h0, h3⟩, h1⟩ := hc
  have r1 := A.sound hs h1
  obtain ⟨d, hd⟩ := Option.isSome_iff_exists.1 h0
  have ht : P.underlying t = some (.int k) := by revert h3; split <;> simp_all
  unfold cviK at h
  split at h
  · rename_i k' n e1
    rw [e1, rep_int] at r1
    refine ⟨_, _, h, rep_int.2 rfl, fun o ho w' _ => ?_⟩
    simp [execOp, ho, r1, convert, underlying_run ht, underlying_run hd, Conv.intToInt]
  · exact h.elim

theorem sound_cvs (hs : SM w ρ sl a) {x : A} {op : Op} (hc : C.chk P op (.cvs x) = true) (h : cvsK K (x.ev sl)) : Yields P a w ρ op K := by
  cases op <;> simp [C.chk] at hc
  rename_i s t x1
  obtain ⟨⟨h0, h3⟩, h1⟩ := hc
  have r1 := A.sound hs h1
  have hd : P.underlying s = some .string := by revert h0; split <;> simp_all
  have ht : P.underlying t = some .string := by revert h3; split <;> simp_all
  unfold cvsK at h
  split at h
  · rename_i l e1
    rw [e1, rep_str] at r1
    refine ⟨_, _, h, rep_str.2 rfl, fun o ho w' _ => ?_⟩
    simp [execOp, ho, r1, convert, underlying_run ht, underlying_run hd]
  · exact h.elim

theorem sound_idx (hs : SM w ρ sl a) {x y : A} {op : Op} (hc : C.chk P op (.idx x y) = true) (h : idxK K (x.ev sl) (y.ev sl)) : Yields P a w ρ op K := by
  cases op <;> simp [C.chk] at hc
  rename_i t x1 y1
  obtain ⟨⟨h0, h1⟩, h2⟩ := hc
  have r1 := A.sound hs h1
  have r2 := A.sound hs h2
  have ht : P.underlying t = some .string := by revert h0; split <;> simp_all
  unfold idxK at h
  split at h
  · rename_i s k n e1 e2
    rw [e1, rep_str] at r1
    rw [e2, rep_int] at r2
    obtain ⟨⟨hn0, hn⟩, h⟩ := h
    refine ⟨_, _, h, rep_int.2 rfl, fun o ho w' _ => ?_⟩
    have hlt : n.toNat < s.length := by omega
    have hb : (ByteArray.mk s.toArray)[n.toNat]? = some s[n.toNat] := by
      rw [getElem?_pos _ _ (by simpa [ByteArray.size] using hlt)]
      simp [ByteArray.getElem_eq_getElem_data]
    simp [execOp, ho, r1, r2, Instr.index, asIntOf, underlying_run ht, hn0, hb, hlt]
  · exact h.elim

theorem sound_idxA (hs : SM w ρ sl a) {z : Nat} {x y : A} {op : Op} (hc : C.chk P op (.idxA z x y) = true) (h : idxAK z K (x.ev sl) (y.ev sl)) : Yields P a w ρ op K := by
  cases op <;> simp [C.chk] at hc
  rename_i t x1 y1
  obtain ⟨⟨h0, h1⟩, h2⟩ := hc
  have r1 := A.sound hs h1
  have r2 := A.sound hs h2
  obtain ⟨e, ht, he⟩ : ∃ e, P.underlying t = some (.slice e) ∧ sizeT P e = some z := by
    revert h0; split <;> simp_all
  unfold idxAK at h
  split at h
  · rename_i sz xs k n e1 e2
    rw [e1, rep_list] at r1
    rw [e2, rep_int] at r2
    obtain ⟨rfl, ⟨hn0, hn⟩, h⟩ := h
    have hlt : n.toNat < xs.length := by omega
    rcases r1 with ⟨hx, _⟩ | ⟨ad, cap, vs, r1, _, hce, hre, hu⟩
    · subst hx; simp at hlt
    · refine ⟨_, _, h, rep_cp.2 ⟨⟨ad.block, ad.off + n.toNat * z, none⟩, _, rfl, hce.sub (n.toNat * z) z, ?_⟩, fun o ho w' _ => ?_⟩
      · have h3 := D.repL_at hre hlt
        have h4 : D.szs (xs.take n.toNat) = n.toNat * z := by
          rw [D.szs_uniform (sz := z) _ (fun x hx => hu x (List.mem_of_mem_take hx))]
          rw [List.length_take, Nat.min_eq_left (by omega)]
        rw [h4, hu _ (List.getElem_mem hlt)] at h3
        simpa [hlt] using h3
      · simp [execOp, ho, r1, r2, Instr.indexAt, asIntOf, underlying_run ht, hn0, hn, info_size he, Addr.add_eq hce.1]
  · exact h.elim

theorem box_of (ho : OM w ρ objs) {id : Nat} {p : List Nat} {v : V} (h : atO objs id p = some v) :
    ∃ t b cs E, lookO objs id = some (.box E t) ∧ t.at p = some v ∧ ρ.m id = some (.box b t.shape) ∧ w.heap[b]? = some (.cells (List.toArray cs) E (0, 0)) ∧ t.repC w ρ cs := by
  unfold atO at h
  split at h
  · rename_i E t hl
    obtain ⟨b, cs, h1, h2, h3⟩ := ho.one id _ hl
    exact ⟨t, b, cs, E, hl, h, h1, h2, h3⟩
  · simp at h

theorem Sh.off_append (s : Sh) : ∀ (p : List Nat) (t : V) (v : V) (i : Nat), t.shape = s → t.at p = some v → s.off (p ++ [i]) = s.off p + v.shape.off [i]
  | [], t, v, i, e, h => by
    simp only [V.at, Option.some.injEq] at h; subst h; subst e
    have : t.shape.off [] = 0 := by cases t.shape <;> simp [Sh.off]
    simp [this]
  | j :: p, t, v, i, e, h => by
    simp only [V.at] at h
    split at h
    · rename_i ks hk
      split at h
      · rename_i k hj
        subst e
        rw [V.shape_kids hk]
        have hg : (List.map V.shape ks).getD j .leaf = k.shape := by simp [hj]
        simp only [List.cons_append, Sh.off, hg]
        rw [Sh.off_append _ p k v i rfl h]
        omega
      · simp at h
    · simp at h

theorem off_one {v : V} {ks : List V} (hk : v.kids = some ks) (i : Nat) : v.shape.off [i] = Sh.sizes ((ks.take i).map V.shape) := by
  rw [V.shape_kids hk]
  simp only [Sh.off, List.map_take]
  cases (List.map V.shape ks).getD i .leaf <;> simp [Sh.off]

theorem sizes_uniform {z : Nat} : ∀ (ks : List V), (∀ k ∈ ks, k.size = z) → Sh.sizes (ks.map V.shape) = ks.length * z
  | [], _ => by simp [Sh.sizes]
  | x :: r, h => by
    have h1 := h x (by simp)
    have h2 := sizes_uniform r (fun y hy => h y (by simp [hy]))
    unfold V.size at h1
    simp [Sh.sizes, h1, h2, Nat.add_mul]; omega

theorem sound_peq (hs : SM w ρ sl a) (hO : OM w ρ objs) {e : Bool} {x y : A} {op : Op} (hc : C.chk P op (.peq e x y) = true) (h : peqK objs e K (x.ev sl) (y.ev sl)) : Yields P a w ρ op K := by
  cases op <;> simp [C.chk] at hc
  rename_i o1 t x1 y1 t2
  obtain ⟨⟨⟨h0, h3⟩, h1⟩, h2⟩ := hc
  have r1 := A.sound hs h1
  have r2 := A.sound hs h2
  obtain ⟨el, n, ht, hn, hn0⟩ : ∃ el n, P.underlying t = some (.pointer el) ∧ sizeT P el = some n ∧ n ≠ 0 := by
    split at h3
    · rename_i el he
      split at h3
      · rename_i n hn; exact ⟨el, n, he, hn, by simpa using h3⟩
      · simp at h3
    · simp at h3
  unfold peqK at h
  split at h
  · rename_i i p j q e1 e2
    obtain ⟨rfl, rfl, ⟨v, hv⟩, h⟩ := h
    obtain ⟨t0, b', cs, E, g1, _⟩ := box_of hO hv
    rw [e1] at r1
    rw [e2] at r2
    obtain ⟨b, sh, hρ, r1⟩ := rep_ptr_box hO g1 r1
    obtain ⟨b2, sh2, hρ2, r2⟩ := rep_ptr_box hO g1 r2
    rw [hρ] at hρ2
    cases hρ2
    refine ⟨_, _, h, rep_bool.2 rfl, fun o ho w' _ => ?_⟩
    have heq : (Op.equal t (.pointer (some ⟨b, sh.off p, none⟩)) (.pointer (some ⟨b, sh.off p, none⟩))).run P w' = .ok true w' := by
      have : ∀ d, (Op.equalIn (d + 1) t (.pointer (some ⟨b, sh.off p, none⟩)) (.pointer (some ⟨b, sh.off p, none⟩))).run P w' = .ok true w' := fun d => by
        simp [Op.equalIn, underlying_run ht, info_size hn, sameAddr]
      exact this 9999
    subst h0
    cases e <;> simp [execOp, ho, r1, r2, eqGuard_ptr, binOp, heq]
  · exact h.elim

theorem sound_idxP (hs : SM w ρ sl a) (ho : OM w ρ objs) {n z : Nat} {x y : A} {op : Op} (hc : C.chk P op (.idxP n z x y) = true) (h : idxPK objs n z K (x.ev sl) (y.ev sl)) : Yields P a w ρ op K := by
  cases op <;> simp [C.chk] at hc
  rename_i t x1 y1
  obtain ⟨⟨h0, h1⟩, h2⟩ := hc
  have r1 := A.sound hs h1
  have r2 := A.sound hs h2
  obtain ⟨e, ht, he⟩ : ∃ e, P.underlying t = some (.array n e) ∧ sizeT P e = some z := by
    revert h0; split <;> simp_all
  unfold idxPK at h
  split at h
  · rename_i id p k m e1 e2
    rw [e1] at r1
    rw [e2, rep_int] at r2
    obtain ⟨⟨hn0, hn⟩, ⟨ks, hk, hl, hu⟩, h⟩ := h
    cases hat : atO objs id p with
    | none => simp [hat, kidsO] at hk
    | some v =>
      simp only [hat, kidsO] at hk
      obtain ⟨t0, b', cs, E, g1, g2, g3, g4, g5⟩ := box_of ho hat
      obtain ⟨b, sh, hρ, r1⟩ := rep_ptr_box ho g1 r1
      rw [hρ] at g3
      simp only [Option.some.injEq, RO.box.injEq] at g3
      obtain ⟨rfl, rfl⟩ := g3
      refine ⟨_, _, h, rep_ptr_mk hρ, fun o ho w' _ => ?_⟩
      have h3 : t0.shape.off (p ++ [m.toNat]) = t0.shape.off p + m.toNat * z := by
        rw [Sh.off_append _ p t0 v m.toNat rfl g2, off_one hk, sizes_uniform (z := z) _ (fun k hk' => hu k (List.mem_of_mem_take hk')), List.length_take, Nat.min_eq_left (by omega)]
      simp [execOp, ho, r1, r2, Instr.indexAt, asIntOf, underlying_run ht, hn0, hn, info_size he, Instr.sureAddr, Addr.add_eq, h3]
  · rename_i xs k m e1 e2
    rw [e1, rep_cp] at r1
    rw [e2, rep_int] at r2
    obtain ⟨⟨hn0, hn⟩, hl, hu, h⟩ := h
    obtain ⟨ad, vs, r1, hce, hre⟩ := r1
    simp only [D.rep] at hre
    have hlt : m.toNat < xs.length := by omega
    refine ⟨_, _, h, rep_cp.2 ⟨⟨ad.block, ad.off + m.toNat * z, none⟩, _, rfl, hce.sub (m.toNat * z) z, ?_⟩, fun o ho w' _ => ?_⟩
    · have h3 := D.repL_at hre hlt
      have h4 : D.szs (xs.take m.toNat) = m.toNat * z := by
        rw [D.szs_uniform (sz := z) _ (fun x hx => hu x (List.mem_of_mem_take hx)), List.length_take, Nat.min_eq_left (by omega)]
      rw [h4, hu _ (List.getElem_mem hlt)] at h3
      simpa [hlt] using h3
    · simp [execOp, ho, r1, r2, Instr.indexAt, asIntOf, underlying_run ht, hn0, hn, info_size he, Instr.sureAddr, Addr.add_eq hce.1]
  · exact h.elim

theorem sound_fldA (hs : SM w ρ sl a) (ho : OM w ρ objs) {f fo : Nat} {x : A} {op : Op} (hc : C.chk P op (.fldA f fo x) = true) (h : fldAK objs f fo K (x.ev sl)) : Yields P a w ρ op K := by
  cases op <;> simp [C.chk] at hc
  rename_i t x1 g
  obtain ⟨⟨rfl, h0⟩, h1⟩ := hc
  have r1 := A.sound hs h1
  obtain ⟨fl, n, hf, hof, hn, hn0⟩ : ∃ fl n, fieldT P t f = some fl ∧ fl.offset = fo ∧ sizeT P fl.type = some n ∧ n ≠ 0 := by
    cases h2 : fieldT P t f with
    | none => simp [h2] at h0
    | some fl =>
      cases h3 : sizeT P fl.type with
      | none => simp [h2, h3] at h0
      | some n => simp [h2, h3] at h0; exact ⟨fl, n, rfl, h0.1, h3, h0.2⟩
  obtain ⟨fs, hst, hfi⟩ : ∃ fs, P.underlying t = some (.struct fs) ∧ fs[f]? = some fl := by
    unfold fieldT at hf; revert hf; split <;> simp_all
  unfold fldAK at h
  split at h
  · rename_i id p e1
    rw [e1] at r1
    cases hat : atO objs id p with
    | none => simp [hat, kidsO, fldAKo] at h
    | some v =>
      cases hk : v.kids with
      | none => simp [hat, kidsO, fldAKo, hk] at h
      | some ks =>
        simp only [hat, kidsO, fldAKo, hk] at h
        obtain ⟨hl, hsz, h⟩ := h
        obtain ⟨t0, b', cs, E, g1, g2, g3, g4, g5⟩ := box_of ho hat
        obtain ⟨b, sh, hρ, r1⟩ := rep_ptr_box ho g1 r1
        rw [hρ] at g3
        simp only [Option.some.injEq, RO.box.injEq] at g3
        obtain ⟨rfl, rfl⟩ := g3
        refine ⟨_, _, h, rep_ptr_mk hρ, fun o ho w' _ => ?_⟩
        have h3 : t0.shape.off (p ++ [f]) = t0.shape.off p + fl.offset := by
          rw [Sh.off_append _ p t0 v f rfl g2, off_one hk, hsz, hof]
        simp [execOp, ho, r1, Instr.fieldAt, underlying_run hst, hfi, Instr.sureAddr, fieldPlace, info_size hn, hn0, Addr.add_eq, h3]
  · rename_i xs e1
    rw [e1, rep_cp] at r1
    obtain ⟨ad, vs, r1, hce, hre⟩ := r1
    obtain ⟨hl, hsz, h⟩ := h
    simp only [D.rep] at hre
    refine ⟨_, _, h, rep_cp.2 ⟨⟨ad.block, ad.off + fo, none⟩, _, rfl, hce.sub fo xs[f].sz, ?_⟩, fun o ho w' _ => ?_⟩
    · have h3 := D.repL_at hre hl
      rw [hsz] at h3
      simpa [hl] using h3
    · simp [execOp, ho, r1, Instr.fieldAt, underlying_run hst, hfi, Instr.sureAddr, fieldPlace, info_size hn, hn0, Addr.add_eq hce.1, hof]
  · exact h.elim

theorem sound_nilc (hs : SM w ρ sl a) {x : A} {op : Op} (hc : C.chk P op (.nilc x) = true) (h : nilcK K (x.ev sl)) : Yields P a w ρ op K := by
  cases op <;> simp [C.chk] at hc
  have r1 := A.sound hs hc
  unfold nilcK at h
  split at h
  · rename_i id p e1
    rw [e1] at r1
    obtain ⟨_, r2⟩ := rep_ptr_some r1
    exact ⟨_, _, h, r1, fun o ho w' _ => by simp [execOp, ho, r2]⟩
  · rename_i y e1
    rw [e1] at r1
    have r2 := r1
    rw [rep_cp] at r2
    obtain ⟨b, sh, r2, _⟩ := r2
    exact ⟨_, _, h, r1, fun o ho w' _ => by simp [execOp, ho, r2]⟩
  · rename_i f fi ca e1
    rw [e1] at r1
    have r2 := r1
    rw [rep_fn] at r2
    obtain ⟨b, sh, r2, _⟩ := r2
    exact ⟨_, _, h, r1, fun o ho w' _ => by simp [execOp, ho, r2]⟩
  · rename_i f fi ca e1
    rw [e1] at r1
    have r2 := r1
    rw [rep_dfn] at r2
    obtain ⟨b, sh, r2, _⟩ := r2
    exact ⟨_, _, h, r1, fun o ho w' _ => by simp [execOp, ho, r2]⟩
  · exact h.elim

theorem sound_lenS (hs : SM w ρ sl a) {x : A} {op : Op} (hc : C.chk P op (.lenS x) = true) (h : lenSK K (x.ev sl)) : Yields P a w ρ op K := by
  cases op <;> simp only [C.chk, Bool.false_eq_true] at hc
  rename_i c
  obtain ⟨ca, args, ts⟩ := c
  cases ca <;> (try simp only [Bool.false_eq_true] at hc)
  rename_i b
  cases b <;> (try simp only [Bool.false_eq_true] at hc)
  split at hc
  · rename_i y t e1 e2
    simp only [Bool.and_eq_true] at hc
    obtain ⟨h0, h1⟩ := hc
    have ht : P.underlying t = some .string := by revert h0; split <;> simp_all
    have r1 := A.sound hs h1
    have ea : args = #[y] := by simpa using congrArg List.toArray e1
    have et : ts = #[t] := by simpa using congrArg List.toArray e2
    subst ea et
    unfold lenSK at h
    split at h
    · rename_i s e3
      rw [e3, rep_str] at r1
      refine ⟨_, _, h, rep_int.2 rfl, fun o ho w' _ => ?_⟩
      simp [execOp, ho, resolve, invoke, builtin, Builtin.len_, r1, underlying_run ht, goInt, byteSize]
    · exact h.elim
  · simp at hc

theorem sound_lenL (hs : SM w ρ sl a) (hO : OM w ρ objs) {x : A} {op : Op} (hc : C.chk P op (.lenL x) = true) (h : lenLK objs K (x.ev sl)) : Yields P a w ρ op K := by
  cases op <;> simp only [C.chk, Bool.false_eq_true] at hc
  rename_i c
  obtain ⟨ca, args, ts⟩ := c
  cases ca <;> (try simp only [Bool.false_eq_true] at hc)
  rename_i b
  cases b <;> (try simp only [Bool.false_eq_true] at hc)
  split at hc
  · rename_i y t e1 e2
    simp only [Bool.and_eq_true] at hc
    obtain ⟨h0, h1⟩ := hc
    obtain ⟨e, ht⟩ : ∃ e, P.underlying t = some (.slice e) := by revert h0; split <;> simp_all
    have r1 := A.sound hs h1
    have ea : args = #[y] := by simpa using congrArg List.toArray e1
    have et : ts = #[t] := by simpa using congrArg List.toArray e2
    subst ea et
    have key : ∀ (ad : Option Addr) (n c : Nat), a.eval y = .slice ad n c → K (.d (.int .i64 n)) → Yields P a w ρ (.call { callee := .builtin .len, args := #[y], argTypes := #[t] }) K := by
      intro ad n c e4 hK
      refine ⟨_, _, hK, rep_int.2 rfl, fun o ho w' _ => ?_⟩
      simp [execOp, ho, resolve, invoke, builtin, Builtin.len_, e4, underlying_run ht, goInt]
    unfold lenLK at h
    split at h
    · rename_i sz xs e3
      rw [e3, rep_list] at r1
      rcases r1 with ⟨rfl, r1⟩ | ⟨ad, cap, vs, r1, _⟩
      · exact key _ _ _ r1 h
      · exact key _ _ _ r1 h
    · rename_i e3
      rw [e3, rep_nils] at r1
      exact key _ _ _ r1 h
    · rename_i id n e3
      rw [e3, rep_sl] at r1
      obtain ⟨⟨E, z, xs, hl, hn⟩, h⟩ := h
      obtain ⟨o, hρ, r1⟩ := r1
      have h5 := hO.one id _ hl
      simp only [OneM] at h5
      rcases h5 with ⟨h5, h6⟩ | ⟨b, cap, cs, sp, h5, _⟩
      · rw [hρ] at h5
        simp only [Option.some.injEq] at h5
        subst h5
        simp only [RO.slice] at r1
        obtain ⟨rfl, r1⟩ := r1
        exact key _ _ _ r1 h
      · rw [hρ] at h5
        simp only [Option.some.injEq] at h5
        subst h5
        simp only [RO.slice] at r1
        subst hn
        exact key _ _ _ (r1.2.2 rfl) h
    · exact h.elim
  · simp at hc

theorem sound_lenA {n : Nat} {op : Op} (hc : C.chk P op (.lenA n) = true) (h : K (.d (.int .i64 n))) : Yields P a w ρ op K := by
  cases op <;> simp only [C.chk, Bool.false_eq_true] at hc
  rename_i c
  obtain ⟨ca, args, ts⟩ := c
  cases ca <;> (try simp only [Bool.false_eq_true] at hc)
  rename_i b
  cases b <;> (try simp only [Bool.false_eq_true] at hc)
  split at hc
  · rename_i y t e1 e2
    obtain ⟨e, ht⟩ : ∃ e, P.underlying t = some (.array n e) := by revert hc; split <;> simp_all
    have ea : args = #[y] := by simpa using congrArg List.toArray e1
    have et : ts = #[t] := by simpa using congrArg List.toArray e2
    subst ea et
    refine ⟨_, _, h, rep_int.2 rfl, fun o ho w' _ => ?_⟩
    simp [execOp, ho, resolve, invoke, builtin, Builtin.len_, underlying_run ht, goInt]
  · simp at hc

theorem sound_ext (hs : SM w ρ sl a) {x : A} {i : Nat} {op : Op} (hc : C.chk P op (.ext x i) = true) (h : extK i K (x.ev sl)) : Yields P a w ρ op K := by
  cases op <;> simp [C.chk] at hc
  obtain ⟨rfl, h1⟩ := hc
  have r1 := A.sound hs h1
  unfold extK at h
  split at h
  · rename_i xs e1
    rw [e1, rep_tup] at r1
    obtain ⟨vs, r1, h2⟩ := r1
    obtain ⟨hl, h⟩ := h
    have key : ∀ (xs : List V) (vs : List Value) (i : Nat), V.reps w ρ xs vs → i < xs.length → ∃ u, vs[i]? = some u ∧ (xs.getD i .any).rep w ρ u := by
      intro xs
      induction xs with
      | nil => intro vs i _ h; simp at h
      | cons x r ih =>
        intro vs i h hi
        simp only [V.reps] at h
        obtain ⟨u, us, rfl, h3, h4⟩ := h
        cases i with
        | zero => exact ⟨u, rfl, h3⟩
        | succ i => simpa using ih us i h4 (by simpa using hi)
    obtain ⟨u, h3, h4⟩ := key xs vs i h2 hl
    refine ⟨u, _, h, h4, fun o ho w' _ => ?_⟩
    simp [execOp, ho, r1, Instr.extract, h3]
  · exact h.elim

theorem reps_eval (hs : SM w ρ sl a) : ∀ {xs : List Operand} {ys : List A}, chkAs xs ys = true → V.reps w ρ (ys.map (A.ev sl)) (xs.map a.eval)
  | [], [], _ => by simp [V.reps]
  | x :: r, y :: s, h => by
    simp only [chkAs, Bool.and_eq_true] at h
    simp only [List.map_cons, V.reps]
    exact ⟨_, _, rfl, A.sound hs h.1, reps_eval hs h.2⟩
  | [], _ :: _, h => by simp [chkAs] at h
  | _ :: _, [], h => by simp [chkAs] at h

theorem sound_mki (hs : SM w ρ sl a) {t : Nat} {x : A} {op : Op} (hc : C.chk P op (.mki t x) = true) (h : K (mkiV t (x.ev sl))) : Yields P a w ρ op K := by
  cases op <;> simp [C.chk] at hc
  rename_i t' xo
  obtain ⟨⟨rfl, h0⟩, h1⟩ := hc
  obtain ⟨d, hd, hni⟩ : ∃ d, P.underlying t = some d ∧ ∀ ms, d ≠ .interface ms := by
    revert h0; split <;> simp_all
  have r1 := A.sound hs h1
  refine ⟨.iface t (a.eval xo), _, h, ?_, fun o ho w' _ => ?_⟩
  · unfold mkiV
    split
    · rename_i y e1
      rw [e1] at r1
      exact rep_difc.2 ⟨_, rfl, r1⟩
    · rw [rep_leaf (by simp [V.isAgg]) (by simp)]
      simp only [V.repC]
      exact ⟨_, rfl, r1⟩
  · simp only [execOp, ho, Instr.makeInterface, Sem.run_bind, underlying_run hd, Result.andThen_ok]
    cases d <;> simp_all

theorem map_toArr {α β : Type} (f : α → β) (xs : Array α) : xs.map f = (xs.toList.map f).toArray := by apply Array.ext'; simp

theorem sound_mkf (hs : SM w ρ sl a) {f : Nat} {first cap : List A} {op : Op} (hc : C.chk P op (.mkf f first cap) = true) (h : K (mkfV f (first.map (A.ev sl)) (cap.map (A.ev sl)))) : Yields P a w ρ op K := by
  cases op <;> simp only [C.chk, Bool.false_eq_true] at hc
  rename_i g fs cs
  cases g <;> simp at hc
  obtain ⟨⟨rfl, h1⟩, h2⟩ := hc
  refine ⟨.func (.func f) (fs.map a.eval) (cs.map a.eval), _, h, ?_, fun o ho w' _ => ?_⟩
  · have q1 := reps_eval hs h1
    have q2 := reps_eval hs h2
    unfold mkfV mkfO
    split
    · rename_i l m e1 e2
      rw [V.allD_map e1] at q1
      rw [V.allD_map e2] at q2
      rw [rep_dfn]
      exact ⟨fs.toList.map a.eval, cs.toList.map a.eval, by rw [map_toArr, map_toArr], q1, q2⟩
    · rw [rep_fn]
      exact ⟨fs.toList.map a.eval, cs.toList.map a.eval, by rw [map_toArr, map_toArr], q1, q2⟩
  · simp [execOp, ho, Instr.makeFunc]

/-- cells that lie in memory, loaded -/
theorem load_run {t : TypeId} {n : Nat} (hn : sizeT P t = some n) (hu : (P.underlying t).isSome = true) {b off : Nat} {cs : List Value} (hl : cs.length = n)
    {w' : World} (hc : ∀ i (h : i < cs.length), w'.cell? ⟨b, off + i, none⟩ = some cs[i]) (h1 : agT P t = false → n = 1) :
    (Instr.loadAt t (.pointer (some ⟨b, off, none⟩))).run P w' = .ok (if agT P t then .agg cs.toArray else cs.headD undef) w' := by
  simp only [Instr.loadAt, Instr.sureAddr, loadVar, Sem.run_bind, Sem.run_pure, Result.andThen_ok, isAgg_run hu]
  cases hag : agT P t with
  | true =>
    have := run_loadCells_list (P := P) (w := w') ⟨b, off, none⟩ cs (fun j v hj => by
      obtain ⟨hl, hv⟩ := List.getElem?_eq_some_iff.1 hj
      rw [Addr.add_eq rfl, ← hv]; exact hc j hl)
    simp only [Sem.run_bind, info_size hn, Result.andThen_ok, ← hl, this, if_true, Sem.run_pure]
  | false =>
    have h2 := h1 hag
    rw [h2] at hl
    obtain ⟨c, rfl⟩ := List.length_eq_one_iff.1 hl
    have h3 := hc 0 (by simp)
    simp only [Nat.add_zero, List.getElem_cons_zero] at h3
    simp [h3]
end
end Go.Ab
