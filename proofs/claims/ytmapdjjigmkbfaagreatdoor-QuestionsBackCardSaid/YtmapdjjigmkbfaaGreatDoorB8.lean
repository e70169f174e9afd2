/- Texts of this claim joined by a program, part 8 of 16; the last is: A valid question is what its source says; printing is one to one. No program. -/
import Derived.Test.YtmapdjjigmkbfaaGreatDoorB5
import Derived.Test.YtmapdjjigmkbfaaGreatDoorB6
import Derived.Test.YtmapdjjigmkbfaaGreatDoorB7
set_option linter.unusedSimpArgs false
set_option linter.unusedVariables false
set_option linter.unusedSectionVars false
set_option linter.defProp false
/- Contracts: a formula's names are resolved in place. Condition: the program is the seat's. -/
namespace Go.Sx
open Go Go.Ab Go.Lx
def fV (op n : Int) (kv : V) (a : RAtom) : V := V.mk [.d (iD op),.d (iD n),kv,.d a.enc]
section
variable {op n : Int} {kv : V} {a : RAtom}
@[simp] theorem X8s : (fV op n kv a).kids = some [.d (iD op),.d (iD n),kv,.d a.enc] := V.kids_mk _
theorem Xu : (fV op n kv a).shape = .node [.leaf,.leaf,kv.shape,.node [.leaf,.node [.leaf,.leaf,.leaf,.leaf,.leaf],.node [.leaf,.leaf,.leaf,.leaf,.leaf]]] := by rw [V.shape_kids X8s]; rfl
@[simp] theorem fV_men {q : Nat → Bool} : V.men q (fV op n kv a) = V.men q kv := by rw [fV,Xqo]; simp [V.mens,V.men]
@[simp] theorem X3q : (fV op n kv a).sto = kv.sto := by rw [fV,Xqp]; simp [V.stos,V.sto]
end
def Xpk (ob : Objs) (k : List RForm) (kv : V) (ids : List Nat) : Prop := (k = [] ∧ (kv = .d .nils ∨ kv = .d (.list 14 [])) ∧ ids = []) ∨ (k ≠ [] ∧ ∃ id ws is,kv = .sl id ws.length ∧ ids = id :: is ∧ lookO ob id = some (Xw ws) ∧ Zb ob k ws is)
theorem Qr {ob : Objs} {f : RForm} {v : V} {ids : List Nat} : Zt ob f v ids ↔ ∃ kv,v = fV f.op f.n kv f.atom ∧ Xpk ob f.kids kv ids := by
 obtain ⟨op,n,k,a⟩ := f
 cases k with
 | nil =>
  rw [Zt]
  constructor
  ·rintro ⟨⟨z,hz,rfl⟩,rfl⟩
   refine ⟨.d z,by simp [fV,V.mk,V.allD,RForm.op,RForm.n,RForm.atom],.inl ⟨rfl,?_,rfl⟩⟩
   rcases hz with rfl | rfl
   ·exact .inl rfl
   ·exact .inr rfl
  ·rintro ⟨kv,rfl,h⟩
   rcases h with ⟨_,hz,rfl⟩ | ⟨h,_⟩
   ·refine ⟨?_,rfl⟩
    rcases hz with rfl | rfl
    ·exact ⟨_,.inl rfl,rfl⟩
    ·exact ⟨_,.inr rfl,rfl⟩
   ·exact absurd rfl h
 | cons g r =>
  rw [Vy (by simp)]
  constructor
  ·rintro ⟨id,vs,is,rfl,rfl,h1,h2⟩
   exact ⟨_,rfl,.inr ⟨by simp [RForm.kids],id,vs,is,rfl,rfl,h1,h2⟩⟩
  ·rintro ⟨kv,rfl,h⟩
   rcases h with ⟨h,_⟩ | ⟨_,id,vs,is,rfl,rfl,h1,h2⟩
   ·cases h
   ·exact ⟨id,vs,is,rfl,rfl,h1,h2⟩
theorem Xpk.leaf {ob : Objs} {k : List RForm} {kv : V} {ids : List Nat} (h : Xpk ob k kv ids) : kv.shape = .leaf ∧ kv.sto = true ∧ kv ≠ .any ∧ kv.isAgg = false := by
 rcases h with ⟨_,rfl | rfl,_⟩ | ⟨_,id,ws,is,rfl,_⟩ <;> exact ⟨rfl,rfl,by simp,rfl⟩
def V9 (q : Nat → Bool) : Ob → Bool
 | .box _ t => V.men q t
 | .vec _ _ xs => V.mens q xs
 | .map es => Jn q es
 | _ => false
theorem Y3 (q : Nat → Bool) (i : Nat) (o : Ob) (r : Objs) : noMenO q ((i,o) :: r) = (!V9 q o && noMenO q r) := by cases o <;> simp [noMenO,V9]
theorem Up {q : Nat → Bool} {ob : Objs} {k : Nat} {o o' : Ob} (h : V9 q o = V9 q o') : noMenO q (setO ob k o) = noMenO q (setO ob k o') := by
 induction ob with
 | nil => rfl
 | cons e r ih =>
  obtain ⟨j,y⟩ := e
  simp only [setO]
  split <;> simp only [Y3,h,ih]
def Chg (ids : List Nat) : Objs → Objs → Prop
 | [],[] => True
 | (i,o) :: a,(j,o') :: b => j = i ∧ (∀ q,V9 q o' = V9 q o) ∧ (i ∉ ids → o' = o) ∧ Chg ids a b
 | _,_ => False
theorem Chg.refl (ids : List Nat) : ∀ ob : Objs,Chg ids ob ob
 | [] => trivial
 | (_,_) :: r => ⟨rfl,fun _ => rfl,fun _ => rfl,Chg.refl ids r⟩
theorem Chg.trans {ids : List Nat} : ∀ {a b c : Objs},Chg ids a b → Chg ids b c → Chg ids a c
 | [],[],[],_,_ => trivial
 | [],[],_ :: _,_,h => h.elim
 | [],_ :: _,_,h,_ => h.elim
 | _ :: _,[],_,h,_ => h.elim
 | (_,_) :: _,(_,_) :: _,[],_,h => h.elim
 | (_,_) :: _,(_,_) :: _,(_,_) :: _,⟨h1,h2,h3,h4⟩,⟨g1,g2,g3,g4⟩ => ⟨g1.trans h1,fun q => (g2 q).trans (h2 q),fun h => (g3 (by rw [h1]; exact h)).trans (h3 h),h4.trans g4⟩
theorem Chg.mono {ids js : List Nat} (hs : ∀ j ∈ ids,j ∈ js) : ∀ {a b : Objs},Chg ids a b → Chg js a b
 | [],[],_ => trivial
 | [],_ :: _,h => h.elim
 | _ :: _,[],h => h.elim
 | (_,_) :: _,(_,_) :: _,⟨h1,h2,h3,h4⟩ => ⟨h1,h2,fun h => h3 (fun e => h (hs _ e)),h4.mono hs⟩
theorem Chg.look {ids : List Nat} : ∀ {a b : Objs},Chg ids a b → ∀ j,j ∉ ids → lookO b j = lookO a j
 | [],[],_,_,_ => rfl
 | [],_ :: _,h,_,_ => h.elim
 | _ :: _,[],h,_,_ => h.elim
 | (i,o) :: a,(j,o') :: b,⟨h1,h2,h3,h4⟩,k,hk => by
  subst h1
  by_cases e : j = k
  ·subst e
   simp [h3 hk]
  ·have e' : (j == k) = false := by simpa using e
   rw [Xq _ _ _ _ e',Xq _ _ _ _ e',h4.look k hk]
theorem Chg.keys {ids : List Nat} : ∀ {a b : Objs},Chg ids a b → Xc b = Xc a
 | [],[],_ => rfl
 | [],_ :: _,h => h.elim
 | _ :: _,[],h => h.elim
 | (i,o) :: a,(j,o') :: b,⟨h1,h2,h3,h4⟩ => by have := h4.keys; simp only [Xc] at this; simp only [Xc,List.map_cons,h1,this]
theorem Chg.nm {ids : List Nat} : ∀ {a b : Objs},Chg ids a b → ∀ q,noMenO q b = noMenO q a
 | [],[],_,_ => rfl
 | [],_ :: _,h,_ => h.elim
 | _ :: _,[],h,_ => h.elim
 | (i,o) :: a,(j,o') :: b,⟨h1,h2,h3,h4⟩,q => by rw [Y3,Y3,h2 q,h4.nm q]
theorem Chg.cons {ids : List Nat} {a b : Objs} (h : Chg ids a b) (i : Nat) (o : Ob) : Chg ids ((i,o) :: a) ((i,o) :: b) := ⟨rfl,fun _ => rfl,fun _ => rfl,h⟩
theorem Chg.uncons {ids : List Nat} {a X : Objs} {i : Nat} {o : Ob} (h : Chg ids ((i,o) :: a) X) (hi : i ∉ ids) : ∃ b,X = (i,o) :: b ∧ Chg ids a b := by
 match X,h with
 | [],h => exact h.elim
 | (j,o') :: b,⟨h1,h2,h3,h4⟩ => exact ⟨b,by rw [h1,h3 hi],h4⟩
theorem Chg.set {ids : List Nat} {k : Nat} {o o' : Ob} (hk : k ∈ ids) (hm : ∀ q,V9 q o' = V9 q o) : ∀ {ob : Objs},lookO ob k = some o → Chg ids ob (setO ob k o')
 | [],h => by cases h
 | (i,x) :: r,h => by
  by_cases e : i = k
  ·subst e
   simp at h
   subst h
   rw [Xyo]
   exact ⟨rfl,hm,fun h => absurd hk h,Chg.refl _ _⟩
  ·have e' : (i == k) = false := by simpa using e
   rw [Xq _ _ _ _ e'] at h
   rw [Yk _ _ _ _ _ e']
   exact ⟨rfl,fun _ => rfl,fun _ => rfl,Chg.set hk hm h⟩
theorem Yd : ∀ {a b : Objs},Xc a = Xc b → fresh a = fresh b
 | [],[],_ => rfl
 | [],y :: b,h => by simp [Xc] at h
 | x :: a,[],h => by simp [Xc] at h
 | (i,x) :: a,(j,y) :: b,h => by
  simp only [Xc,List.map_cons,List.cons.injEq] at h
  simp only [fresh,Yd (a := a) (b := b) h.2,h.1]
structure TLoc' (T : V) (lid : Nat) (tob : RTerm → Ob) : Prop where
 nil : Jo T
 fa : ∀ ob t k,lookO ob lid = some (tob t) → k < 5 → Qh ob k k T
 nmV : ∀ ob t,lookO ob lid = some (tob t) → ldV ob (Yo 0 0 T) = .d (.str t.name)
 nmS : ∀ ob t,lookO ob lid = some (tob t) → ldS ob 1 false (Yo 0 0 T)
 paV : ∀ ob t,lookO ob lid = some (tob t) → ldV ob (Yo 1 1 T) = .d (.str t.path)
 paS : ∀ ob t,lookO ob lid = some (tob t) → ldS ob 1 false (Yo 1 1 T)
 vaV : ∀ ob t,lookO ob lid = some (tob t) → ldV ob (Yo 2 2 T) = .d (iD t.var)
 vaS : ∀ ob t,lookO ob lid = some (tob t) → ldS ob 1 false (Yo 2 2 T)
 stv : ∀ ob t x (K : V → Objs → Prop),lookO ob lid = some (tob t) → K .undef (setO ob lid (tob { t with var := x })) → stK ob 1 (.d (.int .i64 x)) K (Yo 2 2 T)
 stf : ∀ ob t x (K : V → Objs → Prop),lookO ob lid = some (tob t) → K .undef (setO ob lid (tob { t with field := x })) → stK ob 1 (.d (.int .i64 x)) K (Yo 3 3 T)
 nm : ∀ t t' q,V9 q (tob t) = V9 q (tob t')
theorem Xaj {ob : Objs} {k : Nat} {o x : Ob} (h : lookO ob k = some x) : lookO (setO ob k o) k = some o := by rw [Xl ob k k ⟨_,h⟩]; simp
theorem TLoc'.loc {T : V} {lid : Nat} {tob : RTerm → Ob} (h : TLoc' T lid tob) {ob : Objs} {x : Ob} (hl : lookO ob lid = some x) (z : Nat) (o : Ob) (hz : ∀ t,fresh (setO ob lid (tob t)) ≤ z) : TLoc T (fun t => (z,o) :: setO ob lid (tob t)) := by
 have hlid := Xt hl
 have e : (z == lid) = false := by have := hz ⟨[],[],0,0,0⟩; simp at this; simp; omega
 have hk : ∀ t,lookO ((z,o) :: setO ob lid (tob t)) lid = some (tob t) := fun t => by rw [Xq _ _ _ _ e]; exact Xaj hl
 have hs : ∀ t t',setO ((z,o) :: setO ob lid (tob t)) lid (tob t') = (z,o) :: setO ob lid (tob t') := fun t t' => by rw [Yk _ _ _ _ _ e,Xas]
 exact ⟨h.nil,fun t k hk' => h.fa _ t k (hk t) hk',fun t => h.nmV _ t (hk t),fun t => h.nmS _ t (hk t),fun t => h.paV _ t (hk t),fun t => h.paS _ t (hk t),fun t => h.vaV _ t (hk t),fun t => h.vaS _ t (hk t),
  fun t x K hK => h.stv _ t x K (hk t) (by rw [hs]; exact hK),fun t x K hK => h.stf _ t x K (hk t) (by rw [hs]; exact hK),fun t t' => by simp,fun t t' => by simp only [Xc,List.map_cons]; have h1 := Ya ob lid (tob t); have h2 := Ya ob lid (tob t'); simp only [Xc] at h1 h2; rw [h1,h2],fun t t' q => by rw [Y3,Y3,Up (h.nm t t' q)]⟩
structure FLoc (L : V) (lid : Nat) (lob : Int → RAtom → Ob) (op : Int) (kv : V) : Prop where
 nil : Jo L
 fa : ∀ ob n a,lookO ob lid = some (lob n a) → Qh ob 0 0 L ∧ Qh ob 1 1 L ∧ Qh ob 2 2 L ∧ Qh ob 3 3 L ∧ Qh ob 1 1 (Yo 3 3 L) ∧ Qh ob 2 6 (Yo 3 3 L) ∧ Qh ob 0 0 (Yo 1 1 (Yo 3 3 L))
 ld : ∀ ob n a,lookO ob lid = some (lob n a) → ldV ob (Yo 0 0 L) = .d (iD op) ∧ ldS ob 1 false (Yo 0 0 L) ∧ ldV ob (Yo 2 2 L) = kv ∧ ldS ob 1 false (Yo 2 2 L) ∧ ldV ob (Yo 0 0 (Yo 1 1 (Yo 3 3 L))) = .d (.str a.a.name) ∧ ldS ob 1 false (Yo 0 0 (Yo 1 1 (Yo 3 3 L)))
 stN : ∀ ob n a x (K : V → Objs → Prop),lookO ob lid = some (lob n a) → K .undef (setO ob lid (lob x a)) → stK ob 1 (.d (.int .i64 x)) K (Yo 1 1 L)
 stA : ∀ ob n a (K : V → Objs → Prop),lookO ob lid = some (lob n a) → K .undef (setO ob lid (lob n Yr)) → stK ob 11 (.d Yr.enc) K (Yo 3 3 L)
 tA : ∀ (n : Int) (a : RAtom),TLoc' (Yo 1 1 (Yo 3 3 L)) lid (fun t => lob n { a with a := t })
 tB : ∀ (n : Int) (a : RAtom),TLoc' (Yo 2 6 (Yo 3 3 L)) lid (fun t => lob n { a with b := t })
 nm : ∀ q n a n' a',V9 q (lob n a) = V9 q (lob n' a')
 men : ∀ q,q lid = false → V.men q L = false
def Xvq (kv : V) : Prop := kv = .d .nils ∨ kv = .d (.list 14 []) ∨ ∃ id n,kv = .sl id n
theorem Xpk.kv {ob : Objs} {k : List RForm} {kv : V} {ids : List Nat} (h : Xpk ob k kv ids) : Xvq kv := by
 rcases h with ⟨_,rfl | rfl,_⟩ | ⟨_,id,ws,is,rfl,_⟩
 ·exact .inl rfl
 ·exact .inr (.inl rfl)
 ·exact .inr (.inr ⟨_,_,rfl⟩)
theorem Xvq.leaf {kv : V} (h : Xvq kv) : kv.shape = .leaf ∧ kv.sto = true ∧ kv ≠ .any ∧ kv.isAgg = false := by
 rcases h with rfl | rfl | ⟨_,_,rfl⟩ <;> exact ⟨rfl,rfl,by simp,rfl⟩
theorem Un {q : Nat → Bool} {v v' : V} (h : V.men q v = V.men q v') : ∀ (ws : List V) (i : Nat),V.mens q (ws.set i v) = V.mens q (ws.set i v')
 | [],_ => rfl
 | _ :: _,0 => by simp [V.mens,h]
 | _ :: r,i + 1 => by simp [V.mens,Un h r i]
theorem X8w {id m i : Nat} {ws : List V} {op : Int} {kv : V} (hm : m = ws.length) (hi : i < ws.length) (hk : Xvq kv) : FLoc (.ep id m 14 i 0 []) id (fun n a => Xw (ws.set i (fV op n kv a))) op kv := by
 subst hm
 refine ⟨by simp [Jo,U5],fun ob n a h => ?_,fun ob n a h => ?_,fun ob n a x K h hK => ?_,fun ob n a K h hK => ?_,fun n a => ?_,fun n a => ?_,fun q n a n' a' => ?_,fun q hq => by simpa [V.men] using hq⟩
 ·simp only [Xw] at h
  have k1 := hk.leaf.1
  simp [h,hi,Xu,k1]
 ·simp only [Xw] at h
  rcases hk with rfl | rfl | ⟨_,_,rfl⟩ <;> simp [h,hi,Xu,RAtom.enc,RTerm.enc]
 ·simp only [Xw] at h
  rcases hk with rfl | rfl | ⟨_,_,rfl⟩ <;> simp [stK,Xzv,X27,Xzw,h,hi,Xu,Xcc,Xw,fV,V.mk,V.allD] at hK ⊢ <;> exact hK
 ·simp only [Xw] at h
  rcases hk with rfl | rfl | ⟨_,_,rfl⟩ <;> simp [stK,Xzv,X27,Xzw,h,hi,Xu,Xcc,Xw,fV,V.mk,V.allD,RAtom.enc,RTerm.enc] at hK ⊢ <;> exact hK
 ·refine ⟨by simp [Jo,U5],fun ob t k h h5 => ?_,fun ob t h => ?_,fun ob t h => ?_,fun ob t h => ?_,fun ob t h => ?_,fun ob t h => ?_,fun ob t h => ?_,fun ob t x K h hK => ?_,fun ob t x K h hK => ?_,fun t t' q => ?_⟩
  ·simp only [Xw] at h
   rcases hk with rfl | rfl | ⟨_,_,rfl⟩ <;> rcases k with _ | _ | _ | _ | _ | k <;> first | omega | simp [h,hi,Xu,RAtom.enc,RTerm.enc]
  all_goals first | (simp only [Xw] at h; rcases hk with rfl | rfl | ⟨_,_,rfl⟩ <;> simp [h,hi,Xu,RAtom.enc,RTerm.enc]; done) | skip
  all_goals first | (simp only [Xw] at h; rcases hk with rfl | rfl | ⟨_,_,rfl⟩ <;> simp [stK,Xzv,X27,Xzw,h,hi,Xu,Xcc,Xw,fV,V.mk,V.allD,RAtom.enc,RTerm.enc] at hK ⊢ <;> exact hK) | skip
  simp only [V9,Xw]; exact Un (by simp) _ _
 ·refine ⟨by simp [Jo,U5],fun ob t k h h5 => ?_,fun ob t h => ?_,fun ob t h => ?_,fun ob t h => ?_,fun ob t h => ?_,fun ob t h => ?_,fun ob t h => ?_,fun ob t x K h hK => ?_,fun ob t x K h hK => ?_,fun t t' q => ?_⟩
  ·simp only [Xw] at h
   rcases hk with rfl | rfl | ⟨_,_,rfl⟩ <;> rcases k with _ | _ | _ | _ | _ | k <;> first | omega | simp [h,hi,Xu,RAtom.enc,RTerm.enc]
  all_goals first | (simp only [Xw] at h; rcases hk with rfl | rfl | ⟨_,_,rfl⟩ <;> simp [h,hi,Xu,RAtom.enc,RTerm.enc]; done) | skip
  all_goals first | (simp only [Xw] at h; rcases hk with rfl | rfl | ⟨_,_,rfl⟩ <;> simp [stK,Xzv,X27,Xzw,h,hi,Xu,Xcc,Xw,fV,V.mk,V.allD,RAtom.enc,RTerm.enc] at hK ⊢ <;> exact hK) | skip
  simp only [V9,Xw]; exact Un (by simp) _ _
 ·simp only [V9,Xw]; exact Un (by simp) _ _
end Go.Sx
/- Plain laws of the reader of questions: what it reads is at the front; a source cut where it failed fails at its end alone; it fails there whatever follows. No program. -/
namespace Go.Sx
open Go Go.Ab Go.Lx
def R.rest {α : Type} : R α → List Tok
 | .ok _ r => r
 | .err r _ => r
def R.End {α : Type} : R α → Prop
 | .ok _ r => r = []
 | .err r _ => r = []
def R.map {α : Type} (g : Tok → Tok) : R α → R α
 | .ok a r => .ok a (r.map g)
 | .err r e => .err (r.map g) e
def Vg {α : Type} (m : M α) (pre post : List Tok) : Prop := match m (pre ++ post) with
 | .ok a r => (∃ mid,r = mid ++ post ∧ m pre = .ok a mid) ∨ (r.length < post.length ∧ (m pre).End)
 | .err r e => (∃ mid,mid ≠ [] ∧ r = mid ++ post ∧ m pre = .err mid e) ∨ (r.length ≤ post.length ∧ (m pre).End)
def Mv (g : Tok → Tok) : Prop := ∀ t,(g t).kind = t.kind ∧ (g t).text = t.text ∧ (g t).n = t.n
structure Good {α : Type} (m : M α) : Prop where
 sfx : ∀ ts,(m ts).rest <:+ ts
 loc : ∀ pre post,Vg m pre post
 mv : ∀ g,Mv g → ∀ ts,m (ts.map g) = (m ts).map g
def Xay {α : Type} (m : M α) : Prop := ∀ ts a r,m ts = .ok a r → r.length < ts.length
section
variable {α β : Type}
theorem Good.ok {m : M α} (h : Good m) {ts r : List Tok} {a : α} (e : m ts = .ok a r) : r <:+ ts := by have := h.sfx ts; rw [e] at this; exact this
theorem Good.er {m : M α} (h : Good m) {ts r : List Tok} {e' : Int} (e : m ts = .err r e') : r <:+ ts := by have := h.sfx ts; rw [e] at this; exact this
theorem Good.end_nil {m : M α} (h : Good m) : (m []).End := by
 have := h.sfx []
 cases e : m [] with
 | ok a r => rw [e] at this; exact List.suffix_nil.1 this
 | err r x => rw [e] at this; exact List.suffix_nil.1 this
theorem Good.pure (a : α) : Good (pure a : M α) := ⟨fun ts => List.suffix_rfl,fun pre post => .inl ⟨pre,rfl,rfl⟩,fun _ _ _ => rfl⟩
theorem Good.fail (e : Int) : Good (fail e : M α) := by
 refine ⟨fun ts => List.suffix_rfl,fun pre post => ?_,fun _ _ _ => rfl⟩
 simp only [Vg,Sx.fail]
 cases pre with
 | nil => exact .inr ⟨by simp,rfl⟩
 | cons x p => exact .inl ⟨x :: p,by simp,rfl,rfl⟩
theorem Good.bind {m : M α} {f : α → M β} (hm : Good m) (hf : ∀ a,Good (f a)) : Good (m >>= f) := by
 refine ⟨fun ts => ?_,fun pre post => ?_,fun g hg ts => ?_⟩
 ·rw [Xd]
  have h1 := hm.sfx ts
  cases e : m ts with
  | ok a r => rw [e] at h1; exact ((hf a).sfx r).trans h1
  | err r x => rw [e] at h1; exact h1
 ·have h1 := hm.loc pre post
  unfold Vg at h1 ⊢
  rw [Xd]
  cases e : m (pre ++ post) with
  | ok a r =>
   rw [e] at h1
   simp only at h1 ⊢
   rcases h1 with ⟨mid,rfl,h2⟩ | ⟨h2,h3⟩
   ·have h4 := (hf a).loc mid post
    unfold Vg at h4
    rw [Xd,h2]
    exact h4
   ·have h6 : ((m >>= f) pre).End := by
     rw [Xd]
     cases e2 : m pre with
     | ok a' r' =>
      rw [e2] at h3
      simp only [R.End] at h3
      subst h3
      exact (hf a').end_nil
     | err r' x => rw [e2] at h3; exact h3
    cases e3 : f a r with
    | ok b r2 => exact .inr ⟨Nat.lt_of_le_of_lt ((hf a).ok e3).length_le h2,h6⟩
    | err r2 x => exact .inr ⟨Nat.le_of_lt (Nat.lt_of_le_of_lt ((hf a).er e3).length_le h2),h6⟩
  | err r x =>
   rw [e] at h1
   simp only at h1 ⊢
   rcases h1 with ⟨mid,h0,rfl,h2⟩ | ⟨h2,h3⟩
   ·exact .inl ⟨mid,h0,rfl,by rw [Xd,h2]⟩
   ·refine .inr ⟨h2,?_⟩
    rw [Xd]
    cases e2 : m pre with
    | ok a' r' =>
     rw [e2] at h3
     simp only [R.End] at h3
     subst h3
     exact (hf a').end_nil
    | err r' x => rw [e2] at h3; exact h3
 ·rw [Xd,Xd,hm.mv g hg ts]
  cases m ts with
  | ok a r => exact (hf a).mv g hg r
  | err r x => rfl
theorem Good.ite {c : Prop} [Decidable c] {a b : M α} (ha : Good a) (hb : Good b) : Good (if c then a else b) := by split <;> assumption
theorem Xcn {g : Tok → Tok} (hg : Mv g) (k : Int) (t : B) (ts : List Tok) : Xf k t (ts.map g) = Xf k t ts := by
 cases ts with
 | nil => rfl
 | cons x r => simp only [List.map_cons,Xf,(hg x).1,(hg x).2.1]
theorem Xay.bind {m : M α} {f : α → M β} (hm : Xay m) (hf : ∀ a,Good (f a)) : Xay (m >>= f) := fun ts b r h => by
 rw [Xd] at h
 cases e : m ts with
 | ok a r1 => rw [e] at h; exact Nat.lt_of_le_of_lt ((hf a).ok h).length_le (hm _ _ _ e)
 | err r1 x => rw [e] at h; cases h
theorem Good.ifN {k : Int} {t : B} {a b : M α} (ha : Good a) (he : Xay a) (hb : Good b) : Good (fun ts => if Xf k t ts then a ts else b ts) := by
 refine ⟨fun ts => ?_,fun pre post => ?_,fun g hg ts => ?_⟩
 ·split
  ·exact ha.sfx ts
  ·exact hb.sfx ts
 ·cases pre with
  | nil =>
   have hl := hb.loc [] post
   have hn : Xf k t [] = false := rfl
   simp only [Vg,List.nil_append,hn,Bool.false_eq_true,if_false] at hl ⊢
   split
   ·rename_i x y z hc
    split at hc
    ·exact .inr ⟨he _ _ _ hc,hb.end_nil⟩
    ·rw [hc] at hl; exact hl
   ·rename_i x y z hc
    split at hc
    ·exact .inr ⟨(ha.er hc).length_le,hb.end_nil⟩
    ·rw [hc] at hl; exact hl
  | cons x p =>
   have hn : Xf k t (x :: p ++ post) = Xf k t (x :: p) := rfl
   have h1 := ha.loc (x :: p) post
   have h2 := hb.loc (x :: p) post
   cases hc : Xf k t (x :: p) with
   | true => simp only [Vg,hn,hc,if_true] at h1 ⊢; exact h1
   | false => simp only [Vg,hn,hc,Bool.false_eq_true,if_false] at h2 ⊢; exact h2
 ·simp only [Xcn hg]
  split
  ·exact ha.mv g hg ts
  ·exact hb.mv g hg ts
theorem Wm {k : Int} {t : B} {f : Tok → α} (hf : ∀ g,Mv g → ∀ x,f (g x) = f x) : Good (fun ts => if Xf k t ts then .ok (f (ts.headD default)) ts.tail else .err ts 100 : M α) ∧ Xay (fun ts => if Xf k t ts then .ok (f (ts.headD default)) ts.tail else .err ts 100 : M α) := by
 have he : Xay (fun ts => if Xf k t ts then .ok (f (ts.headD default)) ts.tail else .err ts 100 : M α) := fun ts a r h => by
  cases ts with
  | nil => simp [Xf] at h
  | cons x p =>
   simp only at h
   split at h
   ·cases h; simp
   ·cases h
 refine ⟨⟨fun ts => ?_,fun pre post => ?_,fun g hg ts => ?_⟩,he⟩
 ·split
  ·exact List.tail_suffix _
  ·exact List.suffix_rfl
 ·cases pre with
  | nil =>
   cases hp : Xf k t post with
   | true =>
    have : post ≠ [] := by intro e; subst e; simp [Xf] at hp
    simp only [Vg,List.nil_append,hp,if_true]
    exact .inr ⟨by have := List.length_pos_iff.2 this; simp; omega,by simp [Xf,R.End]⟩
   | false =>
    simp only [Vg,List.nil_append,hp,Bool.false_eq_true,if_false]
    exact .inr ⟨Nat.le_refl _,by simp [Xf,R.End]⟩
  | cons x p =>
   have hn : Xf k t (x :: p ++ post) = Xf k t (x :: p) := rfl
   cases hp : Xf k t (x :: p) with
   | true =>
    simp only [Vg,hn,hp,if_true]
    exact .inl ⟨p,by simp,by simp⟩
   | false =>
    simp only [Vg,hn,hp,Bool.false_eq_true,if_false]
    exact .inl ⟨x :: p,by simp,by simp,rfl⟩
 ·simp only [Xcn hg]
  cases ts with
  | nil => simp [Xf,R.map]
  | cons x p =>
   cases hp : Xf k t (x :: p) with
   | true => simp [R.map,hf g hg]
   | false => simp [R.map]
end
theorem Xh1 : Ws = fun ts => if Xf 1 [] ts then .ok (ts.headD default).text ts.tail else .err ts 100 := by
 funext ts; simp only [Ws,Xd,Wf]; cases Xf 1 [] ts <;> rfl
theorem Xig (t : B) : Wu t = fun ts => if Xf 1 t ts then .ok () ts.tail else .err ts 100 := by
 funext ts; simp only [Wu,Xd,Wf]; cases Xf 1 t ts <;> rfl
theorem Xoy (t : B) : Yh t = fun ts => if Xf 3 t ts then .ok () ts.tail else .err ts 100 := by
 funext ts; simp only [Yh,Xd,Wf]; cases Xf 3 t ts <;> rfl
theorem Yn : Good Ws := by rw [Xh1]; exact (Wm (f := fun x => x.text) fun g hg x => (hg x).2.1).1
theorem Qf : Xay Ws := by rw [Xh1]; exact (Wm (f := fun x => x.text) fun g hg x => (hg x).2.1).2
theorem Wn (t : B) : Good (Wu t) := by rw [Xig]; exact (Wm (f := fun _ => ()) fun g hg x => rfl).1
theorem X1 (t : B) : Xay (Wu t) := by rw [Xig]; exact (Wm (f := fun _ => ()) fun g hg x => rfl).2
theorem X6 (t : B) : Good (Yh t) := by rw [Xoy]; exact (Wm (f := fun _ => ()) fun g hg x => rfl).1
theorem Wl (t : B) : Xay (Yh t) := by rw [Xoy]; exact (Wm (f := fun _ => ()) fun g hg x => rfl).2
theorem Ys (k : Int) (t : B) : Good (Xv k t) := by
 refine ⟨fun ts => ?_,fun pre post => ?_,fun g hg ts => ?_⟩
 ·simp only [Xv]
  split
  ·exact List.tail_suffix _
  ·exact List.suffix_rfl
 ·cases pre with
  | nil =>
   cases hp : Xf k t post with
   | true =>
    have : post ≠ [] := by intro e; subst e; simp [Xf] at hp
    simp only [Vg,Xv,List.nil_append,hp,if_true]
    exact .inr ⟨by have := List.length_pos_iff.2 this; simp; omega,by simp [Xf,R.End]⟩
   | false =>
    simp only [Vg,Xv,List.nil_append,hp,Bool.false_eq_true,if_false]
    exact .inl ⟨[],rfl,by simp [Xf]⟩
  | cons x p =>
   have hn : Xf k t (x :: p ++ post) = Xf k t (x :: p) := rfl
   cases hp : Xf k t (x :: p) with
   | true =>
    simp only [Vg,Xv,hn,hp,if_true]
    exact .inl ⟨p,by simp,by simp⟩
   | false =>
    simp only [Vg,Xv,hn,hp,Bool.false_eq_true,if_false]
    exact .inl ⟨x :: p,by simp,rfl⟩
 ·simp only [Xv,Xcn hg]
  cases ts with
  | nil => simp [Xf,R.map]
  | cons x p =>
   cases hp : Xf k t (x :: p) with
   | true => simp [R.map]
   | false => simp [R.map]
theorem X5v : Xim = fun ts => if Xf 2 [] ts then .ok (ts.headD default).n ts.tail else .err ts 100 := by
 funext ts; simp only [Xim,Xd,Wf]; cases Xf 2 [] ts <;> rfl
theorem Xde : Good Xim := by rw [X5v]; exact (Wm (f := fun x => x.n) fun g hg x => (hg x).2.2).1
theorem J1 : Xay Xim := by rw [X5v]; exact (Wm (f := fun x => x.n) fun g hg x => (hg x).2.2).2
def wB (t : B) (ts : List Tok) : Bool := Xf 1 t ts && !Xil ts
def Xeh {α : Type} (m : M α) : Prop := ∀ x p,x.kind = 1 → Xf 3 [46] p = true → match m (x :: p) with
 | .ok _ r => r.length < p.length
 | .err r _ => r.length ≤ p.length
section
variable {α β : Type}
theorem Good.ifM {k : Int} {t : B} {a b : M α} (ha : Good a) (he : Xay a) (hb : Good b) : Good (ifM (Xf k t) a b) := Good.ifN ha he hb
theorem Ykt {g : Tok → Tok} (hg : Mv g) (t : B) (ts : List Tok) : wB t (ts.map g) = wB t ts := by
 simp only [wB,Xil,Xcn hg,← List.map_tail]
theorem Good.ifW {t : B} {a b : M α} (ha : Good a) (he : Xay a) (hb : Good b) (h1 : ∀ x,Xf 1 t [x] = true → (a [x]).End) (hd : Xeh b) : Good (Sx.ifM (wB t) a b) := by
 unfold Sx.ifM
 refine ⟨fun ts => ?_,fun pre post => ?_,fun g hg ts => ?_⟩
 ·split
  ·exact ha.sfx ts
  ·exact hb.sfx ts
 ·match pre with
  | [] =>
   have hl := hb.loc [] post
   have hn : wB t [] = false := rfl
   simp only [Vg,List.nil_append,hn,Bool.false_eq_true,if_false] at hl ⊢
   split
   ·rename_i x y z hc
    split at hc
    ·exact .inr ⟨he _ _ _ hc,hb.end_nil⟩
    ·rw [hc] at hl; exact hl
   ·rename_i x y z hc
    split at hc
    ·exact .inr ⟨(ha.er hc).length_le,hb.end_nil⟩
    ·rw [hc] at hl; exact hl
  | [x] =>
   have ha' := ha.loc [x] post
   have hb' := hb.loc [x] post
   have hn : wB t [x] = Xf 1 t [x] := by simp [wB,Xil,Xf]
   have hn2 : wB t ([x] ++ post) = (Xf 1 t [x] && !Xf 3 [46] post) := rfl
   cases hx : Xf 1 t [x] with
   | false =>
    rw [hx] at hn hn2
    simp only [Bool.false_and] at hn2
    simp only [Vg,hn,hn2,Bool.false_eq_true,if_false] at hb' ⊢
    exact hb'
   | true =>
    rw [hx] at hn hn2
    simp only [Bool.true_and] at hn2
    cases hp : Xf 3 [46] post with
    | false =>
     rw [hp] at hn2
     simp only [Bool.not_false] at hn2
     simp only [Vg,hn,hn2,if_true] at ha' ⊢
     exact ha'
    | true =>
     rw [hp] at hn2
     simp only [Bool.not_true] at hn2
     have hk : x.kind = 1 := by
      simp only [Xf,Bool.and_eq_true,decide_eq_true_eq] at hx
      exact hx.1
     have h2 := hd x post hk hp
     have h3 := h1 x hx
     simp only [Vg,hn,hn2,if_true,Bool.false_eq_true,if_false]
     simp only [List.cons_append,List.nil_append]
     cases hm : b (x :: post) with
     | ok v r => rw [hm] at h2; exact .inr ⟨h2,h3⟩
     | err r e => rw [hm] at h2; exact .inr ⟨h2,h3⟩
  | x :: y :: p =>
   have hn : wB t (x :: y :: p ++ post) = wB t (x :: y :: p) := rfl
   have ha' := ha.loc (x :: y :: p) post
   have hb' := hb.loc (x :: y :: p) post
   cases hc : wB t (x :: y :: p) with
   | true => simp only [Vg,hn,hc,if_true] at ha' ⊢; exact ha'
   | false => simp only [Vg,hn,hc,Bool.false_eq_true,if_false] at hb' ⊢; exact hb'
 ·simp only [Ykt hg]
  split
  ·exact ha.mv g hg ts
  ·exact hb.mv g hg ts
theorem Xeh.ifW {t : B} {a b : M α} (hd : Xeh b) : Xeh (Sx.ifM (wB t) a b) := fun x p hk hp => by
 have hw : wB t (x :: p) = false := by simp [wB,Xil,hp]
 have := hd x p hk hp
 simpa only [Sx.ifM,hw,Bool.false_eq_true,if_false] using this
theorem Xeh.bind {m : M α} {f : α → M β} (hm : Xeh m) (hf : ∀ a,Good (f a)) : Xeh (m >>= f) := fun x p hk hp => by
 have h1 := hm x p hk hp
 rw [Xd]
 cases e : m (x :: p) with
 | ok a r =>
  rw [e] at h1
  simp only at h1 ⊢
  cases e2 : f a r with
  | ok b r2 => exact Nat.lt_of_le_of_lt ((hf a).ok e2).length_le h1
  | err r2 y => exact Nat.le_of_lt (Nat.lt_of_le_of_lt ((hf a).er e2).length_le h1)
 | err r y => rw [e] at h1; exact h1
theorem Xay.ifM {c : List Tok → Bool} {a b : M α} (ha : Xay a) (hb : Xay b) : Xay (Sx.ifM c a b) := fun ts x r h => by
 simp only [Sx.ifM] at h
 split at h
 ·exact ha _ _ _ h
 ·exact hb _ _ _ h
theorem Xaw {t : B} {f : M α} (hf : Good f) (x : Tok) (hx : Xf 1 t [x] = true) : ((Wu t >>= fun _ => f) [x]).End := by
 have : (Wu t >>= fun _ => f) [x] = f [] := by rw [Xig,Xd]; simp [hx]
 rw [this]; exact hf.end_nil
end
theorem Xve : Good Xj8 := Yn.bind fun _ => (X6 _).bind fun _ => Yn.bind fun _ => .pure _
theorem Xuz : Xay Xj8 := Qf.bind fun _ => (X6 _).bind fun _ => Yn.bind fun _ => .pure _
theorem J9 : Good Xbj := Good.ifM (Xde.bind fun _ => .pure _) (J1.bind fun _ => .pure _) Xve
theorem Xu0 : Xay Xbj := Xay.ifM (J1.bind fun _ => .pure _) Xuz
theorem Xlz : Good opQ := (Ys _ _).bind fun _ => .ite (.pure _) ((Ys _ _).bind fun _ => .ite ((Ys _ _).bind fun _ => .pure _) ((X6 _).bind fun _ => (X6 _).bind fun _ => .pure _))
theorem Xrx : Good Jh := J9.bind fun _ => Xlz.bind fun _ => J9.bind fun _ => .pure _
theorem Xrn : Xay Jh := Xu0.bind fun _ => Xlz.bind fun _ => J9.bind fun _ => .pure _
theorem Xux : Xeh Xj8 := fun x p hk hp => by
 cases p with
 | nil => simp [Xf] at hp
 | cons y q =>
  have hx : Xf 1 [] (x :: y :: q) = true := by simp [Xf,hk]
  have hy : Xf 3 [46] (y :: q) = true := hp
  have e : Xj8 (x :: y :: q) = (Ws >>= fun b => (pure ⟨x.text,b,0,0,0⟩ : M RTerm)) q := by
   unfold Xj8
   rw [Xd,Xh1]
   simp only [hx,if_true,List.headD_cons,List.tail_cons]
   rw [Xd,Xoy]
   simp only [hy,if_true,List.tail_cons,Xh1]
  have hg : Good (Ws >>= fun b => (pure ⟨x.text,b,0,0,0⟩ : M RTerm)) := Yn.bind fun _ => .pure _
  rw [e]
  cases h : (Ws >>= fun b => (pure ⟨x.text,b,0,0,0⟩ : M RTerm)) q with
  | ok a r => have := (hg.ok h).length_le; simp; omega
  | err r a => have := (hg.er h).length_le; simp; omega
theorem Xuy : Xeh Xbj := fun x p hk hp => by
 have hn : Xf 2 [] (x :: p) = false := by simp [Xf,hk]
 have := Xux x p hk hp
 simpa only [Xbj,ifM,hn,Bool.false_eq_true,if_false] using this
theorem V4 : Xeh Jh := Xuy.bind fun _ => Xlz.bind fun _ => J9.bind fun _ => .pure _
def Xlv (n : Nat) : M RForm :=
 ifM (wB Ya1) (Wu Ya1 >>= fun _ => Yh [123] >>= fun _ => Yq n >>= fun l => pure (.mk 1 0 l Yr))
 (ifM (wB X58) (Wu X58 >>= fun _ => Yh [123] >>= fun _ => Yq n >>= fun l => pure (.mk 2 0 l Yr))
 (ifM (wB Jf) (Wu Jf >>= fun _ => Xim >>= fun k => Yh [123] >>= fun _ => Yq n >>= fun l => pure (.mk 3 k l Yr))
 (ifM (wB Xzh) (Wu Xzh >>= fun _ => Xzp) Jh)))
theorem Xzi {α : Type} {t : B} {f : M α} {ts : List Tok} (h : Xf 1 t ts = true) : (Wu t >>= fun _ => f) ts = Q7 f ts := by
 rw [Xig,Xd]; simp [h,Q7]
theorem Xra {t : B} (ht : t ≠ []) (ts : List Tok) : wB t ts = (Q5 ts && Ww t ts) := by
 cases ts with
 | nil => rfl
 | cons x p =>
  have e : Xf 1 t (x :: p) = (Xf 1 [] (x :: p) && Ww t (x :: p)) := by
   rw [Bool.eq_iff_iff]
   simp [Xf,Ww,ht]
  simp only [wB,Q5,e]
  cases Xf 1 [] (x :: p) <;> cases Ww t (x :: p) <;> cases Xil (x :: p) <;> rfl
theorem Xba (n : Nat) : Zw (n + 1) = Xlv n := by
 funext ts
 have w1 := Xra (t := Ya1) (by simp) ts
 have w2 := Xra (t := X58) (by simp) ts
 have w3 := Xra (t := Jf) (by simp) ts
 have w4 := Xra (t := Xzh) (by simp) ts
 have k1 : ∀ t,wB t ts = true → Xf 1 t ts = true := fun t h => by
  simp only [wB,Bool.and_eq_true] at h
  exact h.1
 have key : ∀ (t : B) (f b : M RForm),ifM (wB t) (Wu t >>= fun _ => f) b ts = ifM (wB t) (Q7 f) b ts := fun t f b => by
  simp only [ifM]
  cases hw : wB t ts with
  | true => simp only [if_true]; exact Xzi (k1 t hw)
  | false => rfl
 rw [Zw,Xlv]
 cases hr : Q5 ts with
 | false =>
  rw [hr] at w1 w2 w3 w4
  simp only [Bool.false_and] at w1 w2 w3 w4
  simp only [ifM,hr,w1,w2,w3,w4,Bool.false_eq_true,if_false]
 | true =>
  rw [hr] at w1 w2 w3 w4
  simp only [Bool.true_and] at w1 w2 w3 w4
  rw [key]
  simp only [ifM,hr,if_true,w1]
  cases Ww Ya1 ts with
  | true => rfl
  | false =>
   simp only [Bool.false_eq_true,if_false]
   have := key X58 (Yh [123] >>= fun _ => Yq n >>= fun l => pure (.mk 2 0 l Yr)) (ifM (wB Jf) (Wu Jf >>= fun _ => Xim >>= fun k => Yh [123] >>= fun _ => Yq n >>= fun l => pure (.mk 3 k l Yr)) (ifM (wB Xzh) (Wu Xzh >>= fun _ => Xzp) Jh))
   simp only [ifM,w2] at this ⊢
   rw [this]
   cases Ww X58 ts with
   | true => rfl
   | false =>
    simp only [Bool.false_eq_true,if_false]
    have := key Jf (Xim >>= fun k => Yh [123] >>= fun _ => Yq n >>= fun l => pure (.mk 3 k l Yr)) (ifM (wB Xzh) (Wu Xzh >>= fun _ => Xzp) Jh)
    simp only [ifM,w3] at this ⊢
    rw [this]
    cases Ww Jf ts with
    | true => rfl
    | false =>
     simp only [Bool.false_eq_true,if_false]
     have := key Xzh Xzp Jh
     simp only [ifM,w4] at this ⊢
     rw [this]
theorem J8 : Good Xzp := Yn.bind fun _ => .pure _
theorem Xuw (n : Nat) : Xeh (Zw (n + 1)) := by
 rw [Xba]
 exact Xeh.ifW (Xeh.ifW (Xeh.ifW (Xeh.ifW V4)))
theorem Xry {n : Nat} (hl : Good (Yq n)) : Good (Xlv n) := by
 have g1 : Good (Yh [123] >>= fun _ => Yq n >>= fun l => (pure (.mk 1 0 l Yr) : M RForm)) := (X6 _).bind fun _ => hl.bind fun _ => .pure _
 have g2 : Good (Yh [123] >>= fun _ => Yq n >>= fun l => (pure (.mk 2 0 l Yr) : M RForm)) := (X6 _).bind fun _ => hl.bind fun _ => .pure _
 have g3 : Good (Xim >>= fun k => Yh [123] >>= fun _ => Yq n >>= fun l => (pure (.mk 3 k l Yr) : M RForm)) := Xde.bind fun _ => (X6 _).bind fun _ => hl.bind fun _ => .pure _
 refine Good.ifW ((Wn _).bind fun _ => g1) ((X1 _).bind fun _ => g1) ?_ (Xaw g1) (Xeh.ifW (Xeh.ifW (Xeh.ifW V4)))
 refine Good.ifW ((Wn _).bind fun _ => g2) ((X1 _).bind fun _ => g2) ?_ (Xaw g2) (Xeh.ifW (Xeh.ifW V4))
 refine Good.ifW ((Wn _).bind fun _ => g3) ((X1 _).bind fun _ => g3) ?_ (Xaw g3) (Xeh.ifW V4)
 exact Good.ifW ((Wn _).bind fun _ => J8) ((X1 _).bind fun _ => J8) Xrx (Xaw J8) V4
theorem Xro {n : Nat} (hl : Good (Yq n)) : Xay (Xlv n) := by
 have g1 : Good (Yh [123] >>= fun _ => Yq n >>= fun l => (pure (.mk 1 0 l Yr) : M RForm)) := (X6 _).bind fun _ => hl.bind fun _ => .pure _
 have g2 : Good (Yh [123] >>= fun _ => Yq n >>= fun l => (pure (.mk 2 0 l Yr) : M RForm)) := (X6 _).bind fun _ => hl.bind fun _ => .pure _
 have g3 : Good (Xim >>= fun k => Yh [123] >>= fun _ => Yq n >>= fun l => (pure (.mk 3 k l Yr) : M RForm)) := Xde.bind fun _ => (X6 _).bind fun _ => hl.bind fun _ => .pure _
 exact Xay.ifM ((X1 _).bind fun _ => g1) (Xay.ifM ((X1 _).bind fun _ => g2) (Xay.ifM ((X1 _).bind fun _ => g3) (Xay.ifM ((X1 _).bind fun _ => J8) Xrn)))
theorem Xly : ∀ n : Nat,Good (Zw n) ∧ Good (Yq n)
 | 0 => ⟨by rw [Zw]; exact .fail 0,by rw [Yq]; exact .fail 0⟩
 | n + 1 => by
  obtain ⟨h1,h2⟩ := Xly n
  refine ⟨by rw [Xba]; exact Xry h2,?_⟩
  rw [Yq]
  exact (Ys _ _).bind fun _ => .ite (.pure _) (h1.bind fun _ => (X6 _).bind fun _ => h2.bind fun _ => .pure _)
theorem Xi4 (n : Nat) : Xay (Zw n) := by
 cases n with
 | zero => rw [Zw]; intro ts a r h; cases h
 | succ n => rw [Xba]; exact Xro (Xly n).2
theorem Xvf : Good Xzf := (Wn _).bind fun _ => Yn.bind fun _ => Yn.bind fun _ => (Ys _ _).bind fun _ => (X6 _).bind fun _ => .pure _
theorem Xjh {α : Type} {F : List RVar → M α} (hF : ∀ l,Good (F l)) (hD : ∀ l,Xeh (F l)) : ∀ n (G : List RVar → List RVar),Good (Z3 n >>= fun l => F (G l))
 | 0,G => by
  have : (Z3 0 >>= fun l => F (G l)) = fail 0 := by rw [Z3]; rfl
  rw [this]; exact .fail 0
 | n + 1,G => by
  have e : (Z3 (n + 1) >>= fun l => F (G l)) = ifM (wB Jr) (Wu Jr >>= fun _ => (Ws >>= fun a => Ws >>= fun b => Xv 1 Xec >>= fun c => Yh [59] >>= fun _ => Z3 n >>= fun l => F (G (⟨a,b,0,c⟩ :: l)))) (F (G [])) := by
   funext ts
   rw [Xd,Z3]
   have hw : wB Jr ts = Ul ts := rfl
   simp only [ifM,hw]
   cases Ul ts with
   | false => simp
   | true =>
    simp only [if_true]
    have : (Xzf >>= fun v => Z3 n >>= fun l => (pure (v :: l) : M (List RVar))) >>= (fun l => F (G l)) = (Wu Jr >>= fun _ => (Ws >>= fun a => Ws >>= fun b => Xv 1 Xec >>= fun c => Yh [59] >>= fun _ => Z3 n >>= fun l => F (G (⟨a,b,0,c⟩ :: l)))) := by simp only [Xzf,Za,U4]
    rw [← this]
    rfl
  have g : Good (Ws >>= fun a => Ws >>= fun b => Xv 1 Xec >>= fun c => Yh [59] >>= fun _ => Z3 n >>= fun l => F (G (⟨a,b,0,c⟩ :: l))) := Yn.bind fun a => Yn.bind fun b => (Ys _ _).bind fun c => (X6 _).bind fun _ => Xjh hF hD n (fun l => G (⟨a,b,0,c⟩ :: l))
  rw [e]
  exact Good.ifW ((Wn _).bind fun _ => g) ((X1 _).bind fun _ => g) (hF _) (Xaw g) (hD _)
theorem Xi5 : ∀ (n : Nat) (ts r : List Tok) (l : List RVar),Z3 n ts = .ok l r → r.length ≤ ts.length
 | 0,ts,r,l,h => by rw [Z3] at h; cases h
 | n + 1,ts,r,l,h => by
  rw [Z3] at h
  simp only [ifM] at h
  split at h
  ·rw [Xd] at h
   cases hv : Xzf ts with
   | err r2 x => rw [hv] at h; cases h
   | ok v r2 =>
    rw [hv] at h
    simp only at h
    rw [Xd] at h
    cases hw : Z3 n r2 with
    | err r3 x => rw [hw] at h; cases h
    | ok w r3 =>
     rw [hw] at h
     simp only [Wa,R.ok.injEq] at h
     have h1 := (Xvf.ok hv).length_le
     have h2 := Xi5 n _ _ _ hw
     rw [← h.2]; omega
  ·simp only [Wa,R.ok.injEq] at h
   rw [h.2]; exact Nat.le_refl _
theorem Xp7 : Good X1h := by
 refine ⟨fun ts => ?_,fun pre post => ?_,fun g hg ts => ?_⟩
 ·cases ts <;> exact List.suffix_rfl
 ·cases pre with
  | nil =>
   cases post with
   | nil => exact .inl ⟨[],rfl,rfl⟩
   | cons x p => exact .inr ⟨Nat.le_refl _,rfl⟩
  | cons x p => exact .inl ⟨x :: p,by simp,rfl,rfl⟩
 ·cases ts <;> rfl
theorem Xbc (n : Nat) : Good (Wy (n + 1)) := by
 refine (Wn _).bind fun _ => Yn.bind fun a => (Wn _).bind fun _ => Yn.bind fun p => (X6 _).bind fun _ => ?_
 refine Xjh (F := fun vs => Zw (n + 1) >>= fun f => Yh [59] >>= fun _ => Yh [125] >>= fun _ => X1h >>= fun _ => (pure (⟨a,0,vs,f⟩,p) : M (RQ × B))) (fun l => ?_) (fun l => ?_) (n + 1) (fun l => l)
 ·exact (Xly _).1.bind fun _ => (X6 _).bind fun _ => (X6 _).bind fun _ => Xp7.bind fun _ => .pure _
 ·exact (Xuw n).bind fun _ => (X6 _).bind fun _ => (X6 _).bind fun _ => Xp7.bind fun _ => .pure _
theorem Xv2 (n : Nat) : Yq (n + 1) = (Xv 3 [125] >>= fun b => if b then pure [] else Zw n >>= fun f => Yh [59] >>= fun _ => Yq n >>= fun l => pure (f :: l)) := by rw [Yq]
theorem Xzg (n : Nat) : Z3 (n + 1) = ifM Ul (Xzf >>= fun v => Z3 n >>= fun l => pure (v :: l)) (pure []) := by rw [Z3]
theorem Xu6 : ∀ n : Nat,(∀ ts : List Tok,ts.length + 1 ≤ n → Zw (n + 1) ts = Zw n ts) ∧ (∀ ts : List Tok,ts.length + 2 ≤ n → Yq (n + 1) ts = Yq n ts)
 | 0 => ⟨fun ts h => by omega,fun ts h => by omega⟩
 | n + 1 => by
  obtain ⟨ih1,ih2⟩ := Xu6 n
  have bnd : ∀ {α β : Type} {m : M α} {f g : α → M β} {ts : List Tok},(∀ a r,m ts = .ok a r → f a r = g a r) → (m >>= f) ts = (m >>= g) ts := fun h => by
   rw [Xd,Xd]
   split
   ·rename_i a r e; exact h a r e
   ·rfl
  refine ⟨fun ts h => ?_,fun ts h => ?_⟩
  ·rw [Xba,Xba,Xlv,Xlv]
   have lp : ∀ {β : Type} (F : List RForm → M β) (r : List Tok),r.length + 1 ≤ ts.length → (Yh [123] >>= fun _ => Yq (n + 1) >>= F) r = (Yh [123] >>= fun _ => Yq n >>= F) r := fun F r hr => by
    refine bnd fun _ r' e => ?_
    have := Wl _ _ _ _ e
    rw [Xd,Xd,ih2 r' (by omega)]
   simp only [ifM]
   split
   ·exact bnd fun _ r e => lp _ r (by have := X1 _ _ _ _ e; omega)
   split
   ·exact bnd fun _ r e => lp _ r (by have := X1 _ _ _ _ e; omega)
   split
   ·refine bnd fun _ r e => bnd fun k r' e' => lp _ r' ?_
    have := X1 _ _ _ _ e
    have := J1 _ _ _ e'
    omega
   ·rfl
  ·rw [Xv2 (n + 1)]
   conv => rhs; rw [Xv2 n]
   refine bnd fun b r e => ?_
   have hr := ((Ys _ _).ok e).length_le
   split
   ·rfl
   ·rw [Xd,Xd,ih1 r (by omega)]
    cases hf : Zw n r with
    | err r2 x => rfl
    | ok f r2 =>
     have h1 := Xi4 n _ _ _ hf
     refine bnd fun _ r3 e3 => ?_
     have h2 := Wl _ _ _ _ e3
     rw [Xd,Xd,ih2 r3 (by omega)]
theorem Xkz : ∀ (n : Nat) (ts : List Tok),ts.length + 1 ≤ n → Z3 (n + 1) ts = Z3 n ts
 | 0,ts,h => by omega
 | n + 1,ts,h => by
  rw [Xzg (n + 1)]
  conv => rhs; rw [Xzg n]
  simp only [ifM]
  split
  ·rw [Xd,Xd]
   cases hv : Xzf ts with
   | err r x => rfl
   | ok v r =>
    have : Xay Xzf := (X1 _).bind fun _ => Yn.bind fun _ => Yn.bind fun _ => (Ys _ _).bind fun _ => (X6 _).bind fun _ => .pure _
    have := this _ _ _ hv
    simp only
    rw [Xd,Xd,Xkz n r (by omega)]
  ·rfl
theorem Xsb {n : Nat} {ts : List Tok} (h : ts.length ≤ n) : Wy (n + 1) ts = Wy n ts := by
 have bnd : ∀ {α β : Type} {m : M α} {f g : α → M β} {ts : List Tok},(∀ a r,m ts = .ok a r → f a r = g a r) → (m >>= f) ts = (m >>= g) ts := fun h => by
  rw [Xd,Xd]
  split
  ·rename_i a r e; exact h a r e
  ·rfl
 unfold Wy
 refine bnd fun _ r1 e1 => bnd fun a r2 e2 => bnd fun _ r3 e3 => bnd fun p r4 e4 => bnd fun _ r5 e5 => ?_
 have h1 := X1 _ _ _ _ e1
 have h2 := Qf _ _ _ e2
 have h3 := X1 _ _ _ _ e3
 have h4 := Qf _ _ _ e4
 have h5 := Wl _ _ _ _ e5
 rw [Xd,Xd,Xkz n r5 (by omega)]
 cases hv : Z3 n r5 with
 | err r x => rfl
 | ok vs r6 =>
  have h6 := Xi5 _ _ _ _ hv
  simp only
  rw [Xd,Xd,(Xu6 n).1 r6 (by omega)]
theorem Xfq {n : Nat} {ts : List Tok} (h : ts.length ≤ n) : Wy n ts = Wy ts.length ts := by
 obtain ⟨d,rfl⟩ := Nat.exists_eq_add_of_le h
 clear h
 induction d with
 | zero => rfl
 | succ d ih => rw [← ih]; exact Xsb (Nat.le_add_right _ _)
def Zd (ts : List Tok) : R (RQ × B) := Wy (ts.length + 1) ts
theorem Xao {n : Nat} {ts : List Tok} (h : ts.length ≤ n) : Wy n ts = Zd ts := by rw [Zd,Xfq h,Xfq (n := ts.length + 1) (by omega)]
theorem Xov : ∀ ts,(Zd ts).rest <:+ ts := fun ts => (Xbc _).sfx ts
theorem Xke {g : Tok → Tok} (hg : Mv g) (ts : List Tok) : Zd (ts.map g) = (Zd ts).map g := by
 have := (Xbc ts.length).mv g hg ts
 unfold Zd
 rw [List.length_map]
 exact this
theorem Xx8 {pre post : List Tok} {e : Int} (h : Zd (pre ++ post) = .err post e) : (Zd pre).End := by
 have h1 := (Xbc (pre ++ post).length).loc pre post
 rw [Zd] at h
 simp only [Vg,h] at h1
 rw [← Xao (n := (pre ++ post).length + 1) (by simp; omega)]
 rcases h1 with ⟨mid,h0,h2,_⟩ | ⟨_,h3⟩
 ·have := congrArg List.length h2
  simp at this
  exact absurd this h0
 ·exact h3
end Go.Sx
/- Plain facts of what the reader of questions reads, and of what names mean. No program. -/
namespace Go.Sx
open Go Go.Ab Go.Lx
mutual
def RForm.wk : RForm → Prop
 | .mk op _ k _ => (k ≠ [] → op ≠ 4 ∧ op ≠ 5) ∧ wkL k
def wkL : List RForm → Prop
 | [] => True
 | f :: r => f.wk ∧ wkL r
end
theorem Ya2 {l : List RForm} : wkL l ↔ ∀ f ∈ l,f.wk := by
 induction l with
 | nil => simp [wkL]
 | cons f r ih => simp [wkL,ih]
mutual
def RForm.dep : RForm → Nat
 | .mk _ _ k _ => Xs1 k + 1
def Xs1 : List RForm → Nat
 | [] => 0
 | f :: r => max f.dep (Xs1 r)
end
theorem X4 {α β : Type} {m : M α} {f : α → M β} {ts ts' : List Tok} {b : β} (h : (m >>= f) ts = .ok b ts') : ∃ a t1,m ts = .ok a t1 ∧ f a t1 = .ok b ts' := by
 rw [Xd] at h
 cases hm : m ts with
 | ok a t1 => rw [hm] at h; exact ⟨a,t1,rfl,h⟩
 | err a b => rw [hm] at h; cases h
theorem X0m {ts r : List Tok} {f : RForm} (h : Jh ts = .ok f r) : ∃ a,f = .mk 5 0 [] a := by
 obtain ⟨a,t1,_,h⟩ := X4 h
 obtain ⟨o,t2,_,h⟩ := X4 h
 obtain ⟨b,t3,_,h⟩ := X4 h
 simp only [Wa,R.ok.injEq] at h
 exact ⟨_,h.1.symm⟩
theorem X80 {ts r : List Tok} {f : RForm} (h : Xzp ts = .ok f r) : ∃ a,f = .mk 4 0 [] a := by
 obtain ⟨a,t1,_,h⟩ := X4 h
 simp only [Wa,R.ok.injEq] at h
 exact ⟨_,h.1.symm⟩
theorem X3r : ∀ n : Nat,(∀ ts f r,Zw n ts = .ok f r → ts.length ≤ 1000000 → f.wk ∧ f.small ∧ f.dep ≤ n) ∧ (∀ ts l r,Yq n ts = .ok l r → ts.length ≤ 1000000 → wkL l ∧ RForm.smalls l ∧ Xs1 l ≤ n ∧ l.length ≤ ts.length)
 | 0 => ⟨fun ts f r h => (by rw [Zw] at h; cases h),fun ts f r h => (by rw [Yq] at h; cases h)⟩
 | n + 1 => by
  obtain ⟨ih1,ih2⟩ := X3r n
  refine ⟨fun ts f r h hl => ?_,fun ts l r h hl => ?_⟩
  ·have leaf : ∀ o a,f = .mk o 0 [] a → f.wk ∧ f.small ∧ f.dep ≤ n + 1 := fun o a e => by
    subst e
    refine ⟨by rw [RForm.wk]; exact ⟨fun h => absurd rfl h,by rw [wkL]; trivial⟩,by rw [RForm.small]; exact ⟨by simp,by rw [RForm.smalls]; trivial⟩,by rw [RForm.dep,Xs1]; omega⟩
   have node : ∀ o k l t t',(o ≠ 4 ∧ o ≠ 5) → t.length ≤ 1000000 → Yq n t = .ok l t' → f = .mk o k l Yr → f.wk ∧ f.small ∧ f.dep ≤ n + 1 := fun o k l t t' ho ht hq e => by
    obtain ⟨g1,g2,g3,g4⟩ := ih2 _ _ _ hq ht
    subst e
    refine ⟨by rw [RForm.wk]; exact ⟨fun _ => ho,g1⟩,by rw [RForm.small]; exact ⟨by omega,g2⟩,by rw [RForm.dep]; omega⟩
   rw [Xba,Xlv] at h
   simp only [ifM] at h
   split at h
   ·obtain ⟨_,t1,e1,h⟩ := X4 h
    obtain ⟨_,t2,e2,h⟩ := X4 h
    obtain ⟨l,t3,e3,h⟩ := X4 h
    simp only [Wa,R.ok.injEq] at h
    have l1 := X1 _ _ _ _ e1; have l2 := Wl _ _ _ _ e2
    exact node 1 0 l t2 t3 (by decide) (by omega) e3 h.1.symm
   split at h
   ·obtain ⟨_,t1,e1,h⟩ := X4 h
    obtain ⟨_,t2,e2,h⟩ := X4 h
    obtain ⟨l,t3,e3,h⟩ := X4 h
    simp only [Wa,R.ok.injEq] at h
    have l1 := X1 _ _ _ _ e1; have l2 := Wl _ _ _ _ e2
    exact node 2 0 l t2 t3 (by decide) (by omega) e3 h.1.symm
   split at h
   ·obtain ⟨_,t1,e1,h⟩ := X4 h
    obtain ⟨k,t0,e0,h⟩ := X4 h
    obtain ⟨_,t2,e2,h⟩ := X4 h
    obtain ⟨l,t3,e3,h⟩ := X4 h
    simp only [Wa,R.ok.injEq] at h
    have l1 := X1 _ _ _ _ e1; have l2 := Wl _ _ _ _ e2; have l0 := J1 _ _ _ e0
    exact node 3 k l t2 t3 (by decide) (by omega) e3 h.1.symm
   split at h
   ·obtain ⟨_,t1,e1,h⟩ := X4 h
    obtain ⟨a,e⟩ := X80 h
    exact leaf 4 a e
   ·obtain ⟨a,e⟩ := X0m h
    exact leaf 5 a e
  ·rw [Yq] at h
   obtain ⟨b,t1,e1,h⟩ := X4 h
   have l1 := ((Ys _ _).ok e1).length_le
   split at h
   ·simp only [Wa,R.ok.injEq] at h
    rw [← h.1]
    exact ⟨by rw [wkL]; trivial,by rw [RForm.smalls]; trivial,by rw [Xs1]; omega,by simp⟩
   ·obtain ⟨f,t2,e2,h⟩ := X4 h
    obtain ⟨_,t3,e3,h⟩ := X4 h
    obtain ⟨l',t4,e4,h⟩ := X4 h
    simp only [Wa,R.ok.injEq] at h
    have l2 := Xi4 _ _ _ _ e2; have l3 := Wl _ _ _ _ e3
    obtain ⟨f1,f2,f3⟩ := ih1 _ _ _ e2 (by omega)
    obtain ⟨g1,g2,g3,g4⟩ := ih2 _ _ _ e4 (by omega)
    rw [← h.1]
    exact ⟨by rw [wkL]; exact ⟨f1,g1⟩,by rw [RForm.smalls]; exact ⟨f2,g2⟩,by rw [Xs1]; omega,by simp; omega⟩
theorem Xq9 : ∀ (n : Nat) (ts : List Tok) (l : List RVar) (r : List Tok),Z3 n ts = .ok l r → l.length + r.length ≤ ts.length
 | 0,ts,l,r,h => by rw [Z3] at h; cases h
 | n + 1,ts,l,r,h => by
  rw [Z3] at h
  simp only [ifM] at h
  split at h
  ·obtain ⟨v,t1,e1,h⟩ := X4 h
   obtain ⟨l',t2,e2,h⟩ := X4 h
   simp only [Wa,R.ok.injEq] at h
   have he : Xay Xzf := (X1 _).bind fun _ => Yn.bind fun _ => Yn.bind fun _ => (Ys _ _).bind fun _ => (X6 _).bind fun _ => .pure _
   have := he _ _ _ e1
   have := Xq9 n _ _ _ e2
   rw [← h.1,← h.2]
   simp; omega
  ·simp only [Wa,R.ok.injEq] at h
   rw [← h.1,← h.2]; simp
structure ReadOk (n : Nat) (q : RQ) : Prop where
 wk : q.form.wk
 small : q.form.small
 dep : q.form.dep ≤ n
 vars : q.vars.length ≤ n
theorem Xkf {n : Nat} {ts r : List Tok} {x : RQ × B} (h : Wy n ts = .ok x r) (hl : ts.length ≤ n) (hn : n ≤ 1000000) : ReadOk n x.1 ∧ r = [] := by
 unfold Wy at h
 obtain ⟨_,t1,e1,h⟩ := X4 h
 obtain ⟨a,t2,e2,h⟩ := X4 h
 obtain ⟨_,t3,e3,h⟩ := X4 h
 obtain ⟨p,t4,e4,h⟩ := X4 h
 obtain ⟨_,t5,e5,h⟩ := X4 h
 obtain ⟨vs,t6,e6,h⟩ := X4 h
 obtain ⟨f,t7,e7,h⟩ := X4 h
 obtain ⟨_,t8,e8,h⟩ := X4 h
 obtain ⟨_,t9,e9,h⟩ := X4 h
 obtain ⟨_,t10,e10,h⟩ := X4 h
 simp only [Wa,R.ok.injEq] at h
 have h1 := X1 _ _ _ _ e1
 have h2 := Qf _ _ _ e2
 have h3 := X1 _ _ _ _ e3
 have h4 := Qf _ _ _ e4
 have h5 := Wl _ _ _ _ e5
 have h6 := Xq9 _ _ _ _ e6
 obtain ⟨f1,f2,f3⟩ := (X3r n).1 _ _ _ e7 (by omega)
 rw [← h.1,← h.2]
 refine ⟨⟨f1,f2,f3,by simp only; omega⟩,?_⟩
 unfold X1h at e10
 split at e10
 ·simp only [R.ok.injEq] at e10; exact e10.2.symm
 ·cases e10
mutual
theorem Xkl {y : RSrc} {vs : List RVar} : ∀ (f f' : RForm),Xb3 y vs f = some f' → (f.small → f'.small) ∧ f'.dep = f.dep
 | .mk op n k a,f',h => by
  rw [Xb3] at h
  split at h
  ·split at h
   ·cases h
   ·cases h
    exact ⟨fun h => by rw [RForm.small] at h ⊢; exact h,by rw [RForm.dep,RForm.dep]⟩
  split at h
  ·split at h
   ·cases h
    exact ⟨fun h => by rw [RForm.small] at h ⊢; exact h,by rw [RForm.dep,RForm.dep]⟩
   ·cases h
  ·split at h
   ·rename_i l hl
    cases h
    obtain ⟨h1,h2,h3⟩ := Xkn k l hl
    exact ⟨fun h => by rw [RForm.small] at h ⊢; exact ⟨by rw [h3]; exact h.1,h1 h.2⟩,by rw [RForm.dep,RForm.dep,h2]⟩
   ·cases h
theorem Xkn {y : RSrc} {vs : List RVar} : ∀ (l l' : List RForm),U6 y vs l = some l' → (RForm.smalls l → RForm.smalls l') ∧ Xs1 l' = Xs1 l ∧ l'.length = l.length
 | [],l',h => by
  rw [U6] at h
  cases h
  exact ⟨fun h => h,rfl,rfl⟩
 | f :: r,l',h => by
  rw [U6] at h
  split at h
  ·rename_i g l hg hl
   cases h
   obtain ⟨h1,h2⟩ := Xkl f g hg
   obtain ⟨h3,h4,h5⟩ := Xkn r l hl
   refine ⟨fun h => ?_,by rw [Xs1,Xs1,h2,h4],by simp [h5]⟩
   rw [RForm.smalls] at h ⊢
   exact ⟨h1 h.1,h3 h.2⟩
  ·cases h
end
def Xes (y : RSrc) (v : RVar) : Int := Xi RSchema.name y.schemas v.kind 0
def Yat (v : RVar) (n : Int) : RVar := ⟨v.name,v.kind,n,v.other⟩
def Wd (y : RSrc) : List RVar → Option (List RVar)
 | [] => some []
 | v :: r => if Xes y v < 0 then none else match Wd y r with
  | some l => some (Yat v (Xes y v) :: l)
  | none => none
def Xdw (y : RSrc) (p : B) : Int := Xi RPurpose.name y.purposes p 0
def Xs3 (y : RSrc) (q : RQ) (p : B) : Option RQ :=
 if Xdw y p < 0 then none else match Wd y q.vars with
  | none => none
  | some vs => match Xb3 y vs q.form with
   | none => none
   | some f => some ⟨q.name,Xdw y p,vs,f⟩
def Js : RQ := ⟨[],0,[],.mk 0 0 [] Yr⟩
def Xwd (y : RSrc) (x : RQ × B) : RQ × Int × Int := match Xs3 y x.1 x.2 with
 | none => (Js,0,210)
 | some q => if Yt y q then (q,0,0) else (Js,0,210)
def Xkg (y : RSrc) (en : Int) : R (RQ × B) → RQ × Int × Int
 | .err r _ => (Js,atI en r,100)
 | .ok x _ => Xwd y x
def Vn (y : RSrc) (s : B) : RQ × Int × Int :=
 if 65536 < s.length then (Js,0,2) else match Wx s 0 with
  | .err e => (Js,e,90)
  | .ok l => Xkg y s.length (Zd l)
theorem Qo {y : RSrc} : ∀ {l l' : List RVar},Wd y l = some l' → l'.length = l.length
 | [],l',h => by rw [Wd] at h; cases h; rfl
 | v :: r,l',h => by
  rw [Wd] at h
  split at h
  ·cases h
  ·split at h
   ·rename_i l hl
    cases h
    simp [Qo hl]
   ·cases h
theorem Xsc {y : RSrc} {vs : List RVar} (h : ∀ v ∈ vs,0 ≤ v.schema ∧ Xes y v = v.schema) : Wd y (vs.map fun v => ⟨v.name,v.kind,0,v.other⟩) = some vs := by
 induction vs with
 | nil => rfl
 | cons v r ih =>
  obtain ⟨h1,h2⟩ := h v (by simp)
  have h3 : Xes y ⟨v.name,v.kind,0,v.other⟩ = v.schema := h2
  simp only [List.map_cons,Wd,h3]
  rw [if_neg (by omega),ih (fun x hx => h x (by simp [hx]))]
  rfl
theorem Xqz {y : RSrc} {q x : RQ} {p : B} {n : Nat} (hq : ReadOk n q) (h : Xs3 y q p = some x) : x.form.small ∧ x.form.dep ≤ n ∧ x.vars.length ≤ n := by
 unfold Xs3 at h
 split at h
 ·cases h
 split at h
 ·cases h
 rename_i vs hv
 split at h
 ·cases h
 rename_i f hf
 cases h
 obtain ⟨h1,h2⟩ := Xkl _ _ hf
 have h3 := hq.dep
 have h4 := hq.vars
 have h5 := Qo hv
 exact ⟨h1 hq.small,by simp only; omega,by simp only; omega⟩
theorem Xef : Js.small := ⟨by simp [Js],by simp [Js,RForm.small,RForm.smalls]⟩
end Go.Sx
/- Contract: a formula is resolved in place. Condition: the program is the seat's. -/
namespace Go.Sx
open Go Go.Ab Go.Lx
def Xex (P : Prg) (y : RSrc) (vs : List RVar) (f : RForm) : Prop := ∀ (vv L : V) (lid : Nat) (lob : Int → RAtom → Ob) (kv : V) (ids : List Nat) (ob : Objs) (K : Out → Objs → Prop),f.wk → f.small → FLoc L lid lob f.op kv → lookO ob lid = some (lob f.n f.atom) → Xpk ob f.kids kv ids → (lid :: ids).Nodup → (∀ ob',Chg (lid :: ids) ob ob' → VL ob' vs vv) →
 (∀ f',Xb3 y vs f = some f' → ∀ ob',Chg (lid :: ids) ob ob' → lookO ob' lid = some (lob f'.n f'.atom) → Xpk ob' f'.kids kv ids → K (.ret (.tup [])) ob') → (Xb3 y vs f = none → ∀ ob',Chg (lid :: ids) ob ob' → K (.panic (.d unD)) ob') → ACall P 72 [rV y vv,L] ob K
theorem Zb.split {ob : Objs} : ∀ {a b : List RForm} {ws : List V} {is : List Nat},Zb ob (a ++ b) ws is → ∃ wa wb ia ib,ws = wa ++ wb ∧ is = ia ++ ib ∧ Zb ob a wa ia ∧ Zb ob b wb ib
 | [],b,ws,is,h => ⟨[],ws,[],is,rfl,rfl,by simp [Zb],h⟩
 | f :: a,b,ws,is,h => by
  simp only [List.cons_append,Zb] at h
  obtain ⟨x,ws',b1,c1,rfl,rfl,h1,h2⟩ := h
  obtain ⟨wa,wb,ia,ib,rfl,rfl,h3,h4⟩ := Zb.split h2
  exact ⟨x :: wa,wb,b1 ++ ia,ib,rfl,by simp,by simp only [Zb]; exact ⟨x,wa,b1,ia,rfl,rfl,h1,h3⟩,h4⟩
theorem Zb.join {ob : Objs} : ∀ {a b : List RForm} {wa wb : List V} {ia ib : List Nat},Zb ob a wa ia → Zb ob b wb ib → Zb ob (a ++ b) (wa ++ wb) (ia ++ ib)
 | [],b,wa,wb,ia,ib,h,h' => by
  simp only [Zb] at h
  obtain ⟨rfl,rfl⟩ := h
  exact h'
 | f :: a,b,wa,wb,ia,ib,h,h' => by
  simp only [Zb] at h
  obtain ⟨x,ws',b1,c1,rfl,rfl,h1,h2⟩ := h
  simp only [List.cons_append,Zb]
  exact ⟨x,ws' ++ wb,b1,c1 ++ ib,rfl,by simp,h1,Zb.join h2 h'⟩
theorem Xpk.look {ob ob' : Objs} {k : List RForm} {kv : V} {ids : List Nat} (h : Xpk ob k kv ids) (hl : ∀ j ∈ ids,lookO ob' j = lookO ob j) : Xpk ob' k kv ids := by
 rcases h with h | ⟨h0,id,ws,is,rfl,rfl,h1,h2⟩
 ·exact .inl h
 ·exact .inr ⟨h0,id,ws,is,rfl,rfl,by rw [hl id (by simp)]; exact h1,h2.look (fun j hj => hl j (by simp [hj]))⟩
mutual
theorem Zt.ex {ob : Objs} : ∀ {f : RForm} {v : V} {ids : List Nat},Zt ob f v ids → ∀ j ∈ ids,∃ o,lookO ob j = some o
 | .mk op n [] a,v,ids,h,j,hj => by
  rw [Zt] at h
  rw [h.2] at hj
  cases hj
 | .mk op n (f :: r) a,v,ids,h,j,hj => by
  rw [Vy (by simp)] at h
  obtain ⟨id,vs,is,_,rfl,h1,h2⟩ := h
  rcases List.mem_cons.1 hj with rfl | hj
  ·exact ⟨_,h1⟩
  ·exact Zb.ex h2 j hj
theorem Zb.ex {ob : Objs} : ∀ {l : List RForm} {vs : List V} {ids : List Nat},Zb ob l vs ids → ∀ j ∈ ids,∃ o,lookO ob j = some o
 | [],vs,ids,h,j,hj => by
  rw [Zb] at h
  rw [h.2] at hj
  cases hj
 | f :: r,vs,ids,h,j,hj => by
  rw [Zb] at h
  obtain ⟨v,ws,a,b,_,rfl,h1,h2⟩ := h
  rcases List.mem_append.1 hj with hj | hj
  ·exact Zt.ex h1 j hj
  ·exact Zb.ex h2 j hj
end
theorem Xye {y : RSrc} {vs : List RVar} {f f' : RForm} (h : Xb3 y vs f = some f') : f'.op = f.op := by
 obtain ⟨op,n,k,a⟩ := f
 rw [Xb3] at h
 split at h
 ·rename_i e
  split at h
  ·cases h
  ·cases h; simp [RForm.op,e]
 split at h
 ·rename_i e
  split at h <;> cases h
  simp [RForm.op,e]
 ·split at h <;> cases h
  simp [RForm.op]
theorem Xd2 {y : RSrc} {vs : List RVar} : ∀ {l d : List RForm} {f : RForm},U6 y vs l = some d → U6 y vs (l ++ [f]) = (Xb3 y vs f).map (fun f' => d ++ [f'])
 | [],d,f,h => by
  simp only [U6] at h
  cases h
  simp only [List.nil_append,U6]
  cases Xb3 y vs f <;> rfl
 | g :: l,d,f,h => by
  simp only [U6] at h
  cases hg : Xb3 y vs g with
  | none => rw [hg] at h; simp at h
  | some g' =>
   cases hl : U6 y vs l with
   | none => rw [hg,hl] at h; simp at h
   | some l' =>
    rw [hg,hl] at h
    simp at h
    subst h
    simp only [List.cons_append,U6,hg,Xd2 hl (f := f)]
    cases Xb3 y vs f <;> rfl
theorem Xkm {y : RSrc} {vs : List RVar} : ∀ {l : List RForm} (r : List RForm),U6 y vs l = none → U6 y vs (l ++ r) = none
 | [],r,h => by simp [U6] at h
 | g :: l,r,h => by
  simp only [U6] at h
  simp only [List.cons_append,U6]
  cases hg : Xb3 y vs g with
  | none => rfl
  | some g' =>
   cases hl : U6 y vs l with
   | none => rw [Xkm r hl]
   | some l' => rw [hg,hl] at h; simp at h
theorem Xct {y : RSrc} {vs : List RVar} : ∀ {l d : List RForm},U6 y vs l = some d → d.length = l.length
 | [],d,h => by simp only [U6] at h; cases h; rfl
 | g :: l,d,h => by
  simp only [U6] at h
  cases hg : Xb3 y vs g with
  | none => rw [hg] at h; simp at h
  | some g' =>
   cases hl : U6 y vs l with
   | none => rw [hg,hl] at h; simp at h
   | some l' =>
    rw [hg,hl] at h
    simp at h
    subst h
    simp [Xct hl]
end Go.Sx
namespace Go.Proofs.YtmapdjjigmkbfaaGreatDoor
open Go Go.Ab Go.Lx Go.Sx
set_option maxRecDepth 100000
section
variable {P : Prg} (hP : P.p = Tryz.prog)
include hP
theorem Xvb {y : RSrc} (hy : y.small) {vs : List RVar} (hvl : vs.length ≤ 1000000) (hvi : Xb6 y vs) {f : RForm} (ih : ∀ g ∈ f.kids,Xex P y vs g) : Xex P y vs f := by
 intro vv L lid lob kv ids ob K hw hsm hL hl hk hnd hv h1 h0
 have hkl := (RForm.small_eq hsm).1
 have hks := (RForm.small_eq hsm).2
 obtain ⟨op,n,k,a⟩ := f
 simp only [RForm.kids,RForm.op,RForm.n,RForm.atom] at *
 refine acall_lift hP mixed Ypa Yso TOk.nil fun _ hm => ?_
 obtain ⟨k1,k2,k3⟩ := (hv ob (Chg.refl _ _)).shape
 obtain ⟨z,hz⟩ : ∃ z,fresh ob = z := ⟨_,rfl⟩
 rw [hz] at hm ⊢
 have hlid : lid < z := by rw [← hz]; exact Xt hl
 have ez : (z == lid) = false := by simp; omega
 have lc : ∀ o X,lookO ((z,o) :: X) lid = lookO X lid := fun o X => Xq _ _ _ _ ez
 have hvc : ∀ o X,Chg (lid :: ids) ob X → VL ((z,o) :: X) vs vv := fun o X hX => by
  rcases hv X hX with h | ⟨id,e,h⟩
  ·exact .inl h
  ·have := Xt h
   rw [Yd hX.keys,hz] at this
   exact .inr ⟨id,e,by rw [Xq _ _ _ _ (by simp; omega)]; exact h⟩
 have lv : ∀ X out v1,Chg (lid :: ids) ob X → (∀ q,V.men q v1 = false) → K out X → Xx z (K out) [v1] ((z,.box 96 (rV y vv)) :: X) := fun X out v1 hX hv1 h => by
  have hd : Xy (young z []) ((z,.box 96 (rV y vv)) :: X) = X := by
   simp only [Xy,Ub,if_true]
   exact X8 (fun j hj => by have := X2 hj; rw [Yd hX.keys,hz] at this; simp [young]; omega)
  exact ⟨[],by simp [V.mens,hv1],by rw [hd,hX.nm]; exact hm [],by rw [hd]; exact h⟩
 have lr : ∀ X,Chg (lid :: ids) ob X → K (.ret (.tup [])) X → Xx z (K (.ret (.tup []))) [] ((z,.box 96 (rV y vv)) :: X) := fun X hX h => by
  have hd : Xy (young z []) ((z,.box 96 (rV y vv)) :: X) = X := by
   simp only [Xy,Ub,if_true]
   exact X8 (fun j hj => by have := X2 hj; rw [Yd hX.keys,hz] at this; simp [young]; omega)
  exact ⟨[],by simp,by rw [hd,hX.nm]; exact hm [],by rw [hd]; exact h⟩
 have lb : ∀ X n a,lookO X lid = some (lob n a) → lookO ((z,.box 96 (rV y vv)) :: X) lid = some (lob n a) := fun X n a h => by rw [lc]; exact h
 obtain ⟨f1,f2,f3,f4,f5,f6,f7⟩ := hL.fa _ _ _ (lb _ _ _ hl)
 obtain ⟨d1,d2,d3,d4,d5,d6⟩ := hL.ld _ _ _ (lb _ _ _ hl)
 have st : ∀ X n a n' a',lookO X lid = some (lob n a) → lookO (setO X lid (lob n' a')) lid = some (lob n' a') := fun X n a n' a' h => Xaj h
 have cs : ∀ X n a n' a',Chg (lid :: ids) ob X → lookO X lid = some (lob n a) → Chg (lid :: ids) ob (setO X lid (lob n' a')) := fun X n a n' a' hX h => hX.trans (Chg.set (by simp) (fun q => hL.nm q n' a' n a) h)
 have loop : ∀ a' n',∀ obk,Chg (lid :: ids) ob obk → lookO obk lid = some (lob n' a') → Xpk obk k kv ids → ∀ rest, 
   (∀ l,U6 y vs k = some l → ∀ ob',Chg (lid :: ids) ob ob' → lookO ob' lid = some (lob n' a') → Xpk ob' l kv ids → K (.ret (.tup [])) ob') →
   (U6 y vs k = none → ∀ ob',Chg (lid :: ids) ob ob' → K (.panic (.d unD)) ob') →
   Zc P [] Xhx (V2 z [] K) ((1,L) :: (2,.ptr z []) :: rest) ((z,.box 96 (rV y vv)) :: obk) := by
  intro a' n' obk hck hlk hkk rest g1 g0
  have c2 := (hL.fa _ _ _ (lb _ _ _ hlk)).2.2.1
  have c3 := (hL.ld _ _ _ (lb _ _ _ hlk)).2.2.1
  have c4 := (hL.ld _ _ _ (lb _ _ _ hlk)).2.2.2.1
  simp [X7k,hL.nil,c2,c3,c4]
  rcases hkk with ⟨rfl,hkk,rfl⟩ | ⟨kn,id,ws,is,rfl,rfl,hk1,hk2⟩
  ·have none_ : ALoop [1,2,44,45] (Zc P [] Xhw) (Zn 1 (V2 z [] K)) [(1,L),(2,V.ptr z []),(44,V.d (D.int IntKind.i64 0)),(45,V.d (D.int IntKind.i64 0))] ((z,.box 96 (rV y vv)) :: obk) := by
    refine ALoop.upto 0 (fun _ => [(1,L),(2,V.ptr z []),(44,V.d (D.int IntKind.i64 0)),(45,V.d (D.int IntKind.i64 0))]) (fun _ => (z,.box 96 (rV y vv)) :: obk) (fun _ => True) trivial (by simp) rfl (fun k hk => by omega) (fun _ R re rr rp => ?_)
    simp [Xle]
    refine re 1 _ _ ?_
    simp
    exact lr _ hck (g1 [] (by simp [U6]) _ hck hlk (.inl ⟨rfl,hkk,rfl⟩))
   have : kv = .d .nils ∨ kv = .d (.list 14 []) := hkk
   rcases this with rfl | rfl
   ·simpa using none_
   ·simpa using none_
  ·have hid : id < z := by rw [← hz,← Yd hck.keys]; exact Xt hk1
   have eid : (z == id) = false := by simp; omega
   have hlen := hk2.len
   simp only [Xw] at hk1
   simp [eid,hk1]
   refine ⟨⟨_,_,_,⟨rfl,rfl,rfl⟩,rfl⟩,?_⟩
   have hlk' : ∀ X,Chg (id :: is) obk X → lookO X lid = some (lob n' a') := fun X h => by rw [h.look lid (List.nodup_cons.mp hnd).1]; exact hlk
   have hcX : ∀ X,Chg (id :: is) obk X → Chg (lid :: id :: is) ob X := fun X h => hck.trans (h.mono (fun j hj => List.mem_cons_of_mem _ hj))
   refine ALoop.go (ι := Nat × Objs) (fun i => [(1,L),(2,.ptr z []),(44,.d (.int .i64 ws.length)),(45,.d (.int .i64 i.1))]) (fun i => (z,.box 96 (rV y vv)) :: i.2)
    (fun i => i.1 ≤ k.length ∧ Chg (id :: is) obk i.2 ∧ ∃ ws' d,U6 y vs (k.take i.1) = some d ∧ lookO i.2 id = some (Xw ws') ∧ Zb i.2 (d ++ k.drop i.1) ws' is) (fun i => k.length - i.1) (0,obk) ⟨Nat.zero_le _,Chg.refl _ _,ws,[],by simp [U6],hk1,by simpa using hk2⟩ (by simp [Xe]) rfl ?_
   rintro ⟨i,X⟩ ⟨hi,hcx,ws',d,hd,hlx,hrx⟩ R rn re rr rp
   simp only at hi hcx hd hlx hrx ⊢
   rcases Nat.lt_or_ge i k.length with hlt | hge
   ·have e1 : k.drop i = k[i] :: k.drop (i + 1) := List.drop_eq_getElem_cons hlt
    rw [e1] at hrx
    obtain ⟨wa,wb,ia,ib,rfl,rfl,r1,r2⟩ := hrx.split
    simp only [Zb] at r2
    obtain ⟨x,wb,ib,ic,rfl,rfl,r2,r3⟩ := r2
    have hX : lookO X lid = some (lob n' a') := hlk' X hcx
    have q2 := (hL.fa _ _ _ (lb _ _ _ hX)).2.2.1
    have q3 := (hL.ld _ _ _ (lb _ _ _ hX)).2.2.1
    have q4 := (hL.ld _ _ _ (lb _ _ _ hX)).2.2.2.1
    simp only [Xw] at hlx
    have hdl : d.length = i := by rw [Xct hd,List.length_take]; omega
    have hwl : wa.length = i := by rw [r1.len,hdl]
    obtain ⟨kx,rfl,hkx⟩ := Qr.1 r2
    have hln : k.length = wa.length + (wb.length + 1) := by
     have := r3.len
     simp at this
     omega
    have hget : (wa ++ fV k[i].op k[i].n kx k[i].atom :: wb)[i]? = some (fV k[i].op k[i].n kx k[i].atom) := by simp [hwl]
    have hset : ∀ v,(wa ++ fV k[i].op k[i].n kx k[i].atom :: wb).set i v = wa ++ v :: wb := fun v => by
     rw [List.set_append_right _ _ (by omega),hwl,Nat.sub_self]; rfl
    obtain ⟨u1,u2,u3,u4⟩ := hkx.leaf
    have hE : Xgl 14 (some (fV k[i].op k[i].n kx k[i].atom)) := by simp [Xu,u1]
    simp [Xle,hL.nil,q2,q3,q4,hlt,hlen,eid,hlx,k1,k2,Z0]
    rw [if_pos hln,hget]
    refine ⟨hE,Xdx,hE,Xdx,?_⟩
    have hfX : fresh X = z := by rw [Yd hcx.keys,Yd hck.keys,hz]
    have hlow : ∀ j ∈ id :: ib,j < z := fun j hj => by
     rcases List.mem_cons.1 hj with rfl | hj
     ·exact hid
     ·obtain ⟨o,ho⟩ := r2.ex j hj
      rw [← hfX]; exact Xt ho
    have hzn : z ∉ id :: ib := fun e => Nat.lt_irrefl _ (hlow z e)
    obtain ⟨n1,n2⟩ := List.nodup_cons.1 hnd
    obtain ⟨n3,n4⟩ := List.nodup_cons.1 n2
    have n5 := List.nodup_append.1 n4
    have n6 := List.nodup_append.1 n5.2.1
    have hsub : ∀ j ∈ id :: ib,j ∈ id :: (ia ++ (ib ++ ic)) := fun j hj => by
     rcases List.mem_cons.1 hj with rfl | hj
     ·simp
     ·simp [hj]
    have hbX : ∀ b,Chg (id :: ib) X b → Chg (id :: (ia ++ (ib ++ ic))) obk b := fun b hb => hcx.trans (hb.mono hsub)
    have hwk : k[i].wk := by
     rw [RForm.wk] at hw
     exact Ya2.1 hw.2 _ (List.getElem_mem hlt)
    refine ih k[i] (List.getElem_mem hlt) vv _ id (fun n a => Xw ((wa ++ fV k[i].op k[i].n kx k[i].atom :: wb).set i (fV k[i].op n kx a))) kx ib ((z,.box 96 (rV y vv)) :: X) _ hwk (hks _ (List.getElem_mem hlt)) (X8w (i := i) (m := k.length) (ws := wa ++ fV k[i].op k[i].n kx k[i].atom :: wb) (by rw [List.length_append,List.length_cons]; exact hln) (by rw [List.length_append,List.length_cons]; omega) hkx.kv) ?_ ?_ ?_ ?_ ?_ ?_
    ·rw [Xq _ _ _ _ eid,hset]; exact hlx
    ·exact hkx.look (fun j hj => Xq _ _ _ _ (by have := hlow j (List.mem_cons_of_mem _ hj); simp; omega))
    ·exact List.nodup_cons.2 ⟨fun e => n3 (by simp [e]),n6.1⟩
    ·intro ob' hc
     obtain ⟨b,rfl,hb⟩ := hc.uncons hzn
     exact hvc _ b (hcX b (hbX b hb))
    ·intro f' hf' ob' hc hlo hkr
     obtain ⟨b,rfl,hb⟩ := hc.uncons hzn
     rw [Xq _ _ _ _ eid,hset] at hlo
     have hkr' : Xpk b f'.kids kx ib := hkr.look (fun j hj => (Xq _ _ _ _ (by have := hlow j (List.mem_cons_of_mem _ hj); simp; omega)).symm)
     simp [X7j]
     have hfb : fresh b = z := by rw [Yd hb.keys,hfX]
     have hfz : fresh ((z,Ob.box 96 (rV y vv)) :: ((i,X) : Nat × Objs).2) = z + 1 := by simp [fresh,hfX]
     have ylow : ∀ j,j < z + 1 → young (z + 1) [] j = false := fun j hj => by simp [young]; omega
     have nin : ∀ j,j ∈ ia ∨ j ∈ ic → j ∉ id :: ib := fun j hj e => by
      rcases List.mem_cons.1 e with rfl | e
      ·rcases hj with hj | hj
       ·exact n3 (by simp [hj])
       ·exact n3 (by simp [hj])
      ·rcases hj with hj | hj
       ·exact n5.2.2 j hj j (by simp [e]) rfl
       ·exact n6.2.2 j e j hj rfl
     refine rn [] (i + 1,b) _ _ ⟨by simp only; omega,hbX b hb,wa ++ fV k[i].op f'.n kx f'.atom :: wb,d ++ [f'],?_,hlo,?_⟩ (by simp only; omega) ?_ ?_ ?_ ?_
     ·show U6 y vs (k.take (i + 1)) = _
      rw [List.take_succ_eq_append_getElem hlt,Xd2 hd,hf']; rfl
     ·rw [List.append_assoc]
      refine Zb.join (r1.look (fun j hj => hb.look j (nin j (.inl hj)))) ?_
      simp only [List.cons_append,List.nil_append,Zb]
      exact ⟨_,wb,ib,ic,rfl,rfl,Qr.2 ⟨kx,by rw [Xye hf'],hkr'⟩,r3.look (fun j hj => hb.look j (nin j (.inr hj)))⟩
     ·have hw1 : IntKind.i64.wrap ((i : Int) + 1) = (i : Int) + 1 := IntWalk.i64_in _ (by omega)
      simp [hw1,hlen]
     ·rw [hfz]
      exact X8 (fun j hj => by
       simp only [Xc,List.map_cons,List.mem_cons] at hj
       have : j < z + 1 := by
        rcases hj with rfl | hj
        ·exact Nat.lt_succ_self _
        ·have := X2 (ob := b) hj
         omega
       exact ylow j this)
     ·rw [hfz]
      simp [hL.men _ (ylow lid (by omega)),V.men,ylow z (by omega)]
     ·rw [hfz,Y3,hb.nm,hcx.nm,hck.nm,noMenO_up (ob := ob) (by rw [hz]; exact hm) (by omega)]
      have : V.men (young (z + 1) []) vv = false := by
       rcases hv ob (Chg.refl _ _) with ⟨_,rfl⟩ | ⟨id',rfl,hl'⟩
       ·rfl
       ·have := Xt hl'
        simp only [V.men]
        exact ylow id' (by omega)
      simp [V9,this]
    ·intro hf' ob' hc
     obtain ⟨b,rfl,hb⟩ := hc.uncons hzn
     simp
     refine rp _ _ _ ?_
     simp
     refine lv _ _ _ (hcX b (hbX b hb)) (fun q => rfl) (g0 ?_ _ (hcX b (hbX b hb)))
     have e2 : k = (k.take i ++ [k[i]]) ++ k.drop (i + 1) := by rw [← List.take_succ_eq_append_getElem hlt,List.take_append_drop]
     rw [e2]
     exact Xkm _ (by rw [Xd2 hd,hf']; rfl)
   ·have hik : i = k.length := by omega
    subst hik
    simp [Xle,hlen]
    refine re 1 _ _ ?_
    simp
    rw [List.take_length] at hd
    rw [List.drop_length,List.append_nil] at hrx
    refine lr _ (hcX X hcx) (g1 d hd _ (hcX X hcx) (hlk' X hcx) (.inr ⟨?_,id,ws',is,?_,rfl,hlx,hrx⟩))
    ·intro e
     have := Xct hd
     rw [e] at this
     exact kn (List.length_eq_zero_iff.1 this.symm)
    ·rw [hrx.len,Xct hd,hlen]
 by_cases h4 : op = 4
 ·have hk0 : k = [] := by
   rw [RForm.wk] at hw
   by_cases e : k = []
   ·exact e
   ·exact absurd h4 (hw.1 e).1
  subst hk0
  simp [Yhe,k1,k2,Z0,hz,hL.nil,f1,f2,f3,f4,f5,f6,f7,d1,d2,d3,d4,d5,d6,h4]
  refine ⟨Xdx,?_⟩
  have hr : Xb3 y vs (.mk op n [] a) = (if Xi RVar.name vs a.a.name 0 < 0 then none else some (.mk 4 (Xi RVar.name vs a.a.name 0) [] Yr)) := by rw [Xb3,if_pos h4]
  refine X3h hP hvl a.a.name (hvc _ _ (Chg.refl _ _)) (fun hi => ?_) (fun hlt => ?_)
  ·simp [f2]
   refine hL.stN _ _ _ _ _ (lb _ _ _ hl) ?_
   rw [Yk _ _ _ _ _ ez]
   have l1 := st _ _ _ (Xi RVar.name vs a.a.name 0) a hl
   have g4 := (hL.fa _ _ _ (lb _ _ _ l1)).2.2.2.1
   simp [X7l,hL.nil,g4]
   refine hL.stA _ _ _ _ (lb _ _ _ l1) ?_
   rw [Yk _ _ _ _ _ ez,Xas]
   have l2 := st _ _ _ (Xi RVar.name vs a.a.name 0) Yr hl
   have c2 := cs _ _ _ (Xi RVar.name vs a.a.name 0) Yr (Chg.refl _ _) hl
   refine loop _ _ _ c2 l2 ?_ _ (fun l hl' ob' hc' hl2 hk2 => h1 (.mk 4 (Xi RVar.name vs a.a.name 0) [] Yr) ?_ ob' hc' hl2 ?_) (fun e => by simp [U6] at e)
   ·rcases hk with hk | ⟨e,_⟩
    ·exact .inl hk
    ·exact absurd rfl e
   ·rw [hr,if_neg (by omega)]
   ·simp only [U6] at hl'
    cases hl'
    exact hk2
  ·simp
   exact lv _ _ _ (Chg.refl _ _) (fun q => rfl) (h0 (by rw [hr,if_pos hlt]) _ (Chg.refl _ _))
 by_cases h5 : op = 5
 ·have hk0 : k = [] := by
   rw [RForm.wk] at hw
   by_cases e : k = []
   ·exact e
   ·exact absurd h5 (hw.1 e).2
  subst hk0
  simp [Yhe,k1,k2,Z0,hz,hL.nil,f1,f2,f3,f4,f5,f6,f7,d1,d2,d3,d4,d5,d6,h5]
  refine ⟨Xdx,?_⟩
  have hr : Xb3 y vs (.mk op n [] a) = (match Xow y vs a.a,Xow y vs a.b with
   | some x,some z => some (.mk 5 n [] ⟨a.op,x,z⟩)
   | _,_ => none) := by rw [Xb3,if_neg h4,if_pos h5]; all_goals (cases Xow y vs a.a <;> cases Xow y vs a.b <;> rfl)
  have e0 : setO ((z,.box 96 (rV y vv)) :: ob) lid (lob n { a with a := a.a }) = (z,.box 96 (rV y vv)) :: ob := by apply Xkt; exact lb _ _ _ hl
  rw [← e0]
  refine X3i hP hy hvl hvi (tst := fun t => setO ((z,.box 96 (rV y vv)) :: ob) lid (lob n { a with a := t })) (fun z' o hz' => (hL.tA n a).loc (lb _ _ _ hl) z' o hz') (fun t => by rw [Yk _ _ _ _ _ ez]; exact hvc _ _ (cs _ _ _ _ _ (Chg.refl _ _) hl)) (fun t t' => Yd (by rw [Ya,Ya])) (fun t t' q => Up (hL.nm _ _ _ _ _)) (fun t t' => by rw [Ya,Ya]) a.a (fun x hx => ?_) (fun hx t' => ?_)
  ·rw [Yk _ _ _ _ _ ez]
   have l1 := st _ _ _ n { a with a := x } hl
   have c1 := cs _ _ _ n { a with a := x } (Chg.refl _ _) hl
   have g7 := (hL.fa _ _ _ (lb _ _ _ l1))
   simp [X7m,hL.nil,k1,k2,Z0,g7.2.2.2.1,g7.2.2.2.2.2.1]
   refine ⟨Xdx,?_⟩
   have e1 : setO ((z,.box 96 (rV y vv)) :: setO ob lid (lob n { a with a := x })) lid (lob n { { a with a := x } with b := a.b }) = (z,.box 96 (rV y vv)) :: setO ob lid (lob n { a with a := x }) := by apply Xkt; exact lb _ _ _ l1
   rw [← e1]
   refine X3i hP hy hvl hvi (tst := fun t => setO ((z,.box 96 (rV y vv)) :: setO ob lid (lob n { a with a := x })) lid (lob n { { a with a := x } with b := t })) (fun z' o hz' => (hL.tB n { a with a := x }).loc (lb _ _ _ l1) z' o hz') (fun t => by rw [Yk _ _ _ _ _ ez]; exact hvc _ _ (cs _ _ _ _ _ c1 l1)) (fun t t' => Yd (by rw [Ya,Ya])) (fun t t' q => Up (hL.nm _ _ _ _ _)) (fun t t' => by rw [Ya,Ya]) a.b (fun w hw' => ?_) (fun hw' t' => ?_)
   ·rw [Yk _ _ _ _ _ ez]
    have l2 := st _ _ _ n { { a with a := x } with b := w } l1
    have c2 := cs _ _ _ n { { a with a := x } with b := w } c1 l1
    refine loop _ _ _ c2 l2 ?_ _ (fun l hl' ob' hc' hl2 hk2 => h1 (.mk 5 n [] ⟨a.op,x,w⟩) ?_ ob' hc' hl2 ?_) (fun e => by simp [U6] at e)
    ·rcases hk with hk | ⟨e,_⟩
     ·exact .inl hk
     ·exact absurd rfl e
    ·rw [hr,hx,hw']
    ·simp only [U6] at hl'
     cases hl'
     exact hk2
   ·simp
    rw [Yk _ _ _ _ _ ez]
    exact lv _ _ _ (cs _ _ _ _ _ c1 l1) (fun q => rfl) (h0 (by rw [hr,hx,hw']) _ (cs _ _ _ _ _ c1 l1))
  ·simp
   rw [Yk _ _ _ _ _ ez]
   exact lv _ _ _ (cs _ _ _ _ _ (Chg.refl _ _) hl) (fun q => rfl) (h0 (by rw [hr,hx]) _ (cs _ _ _ _ _ (Chg.refl _ _) hl))
 ·simp [Yhe,k1,k2,Z0,hz,hL.nil,f1,f2,f3,f4,f5,f6,f7,d1,d2,d3,d4,d5,d6,h4,h5]
  have hr : Xb3 y vs (.mk op n k a) = (match U6 y vs k with
   | some l => some (.mk op n l a)
   | none => none) := by rw [Xb3,if_neg h4,if_neg h5]; all_goals (cases U6 y vs k <;> rfl)
  exact loop _ _ _ (Chg.refl _ _) hl hk _ (fun l hl' ob' hc' hl2 hk2 => h1 (.mk op n l a) (by rw [hr,hl']) ob' hc' hl2 hk2) (fun e => h0 (by rw [hr,e]))
theorem X3g {y : RSrc} (hy : y.small) {vs : List RVar} (hvl : vs.length ≤ 1000000) (hvi : Xb6 y vs) (f : RForm) : Xex P y vs f :=
 Xvb hP hy hvl hvi fun g hg => X3g hy hvl hvi g
termination_by SizeOf.sizeOf f
decreasing_by
 obtain ⟨op,n,k,a⟩ := f
 simp only [RForm.kids] at hg
 have := List.sizeOf_lt_of_mem hg
 simp
 omega
end
end Go.Proofs.YtmapdjjigmkbfaaGreatDoor
/- A formula that is held in objects is given up. Over any program; no condition. -/
namespace Go.Sx
open Go Go.Ab Go.Lx
def U7 (ids : List Nat) : Objs → Objs → Prop
 | [],[] => True
 | (i,o) :: a,(j,o') :: b => j = i ∧ (o' = o ∨ (i ∈ ids ∧ o' = .gone)) ∧ U7 ids a b
 | _,_ => False
theorem U7.refl (ids : List Nat) : ∀ ob : Objs,U7 ids ob ob
 | [] => trivial
 | (_,_) :: r => ⟨rfl,.inl rfl,U7.refl ids r⟩
theorem U7.trans {ids : List Nat} : ∀ {a b c : Objs},U7 ids a b → U7 ids b c → U7 ids a c
 | [],[],[],_,_ => trivial
 | [],[],_ :: _,_,h => h.elim
 | [],_ :: _,_,h,_ => h.elim
 | _ :: _,[],_,h,_ => h.elim
 | (_,_) :: _,(_,_) :: _,[],_,h => h.elim
 | (_,_) :: _,(_,_) :: _,(_,_) :: _,⟨h1,h2,h3⟩,⟨g1,g2,g3⟩ => ⟨g1.trans h1,by
   rcases g2 with g2 | g2
   ·rw [g2]; exact h2
   ·exact .inr ⟨h1 ▸ g2.1,g2.2⟩,h3.trans g3⟩
theorem U7.mono {ids js : List Nat} (hs : ∀ j ∈ ids,j ∈ js) : ∀ {a b : Objs},U7 ids a b → U7 js a b
 | [],[],_ => trivial
 | [],_ :: _,h => h.elim
 | _ :: _,[],h => h.elim
 | (_,_) :: _,(_,_) :: _,⟨h1,h2,h3⟩ => ⟨h1,h2.imp id (fun h => ⟨hs _ h.1,h.2⟩),h3.mono hs⟩
theorem U7.look {ids : List Nat} : ∀ {a b : Objs},U7 ids a b → ∀ j,j ∉ ids → lookO b j = lookO a j
 | [],[],_,_,_ => rfl
 | [],_ :: _,h,_,_ => h.elim
 | _ :: _,[],h,_,_ => h.elim
 | (i,o) :: a,(j,o') :: b,⟨h1,h2,h3⟩,k,hk => by
  subst h1
  by_cases e : j = k
  ·subst e
   rcases h2 with h2 | h2
   ·simp [h2]
   ·exact absurd h2.1 hk
  ·have e' : (j == k) = false := by simpa using e
   rw [Xq _ _ _ _ e',Xq _ _ _ _ e',h3.look k hk]
theorem U7.keys {ids : List Nat} : ∀ {a b : Objs},U7 ids a b → Xc b = Xc a
 | [],[],_ => rfl
 | [],_ :: _,h => h.elim
 | _ :: _,[],h => h.elim
 | (i,o) :: a,(j,o') :: b,⟨h1,_,h3⟩ => by have := h3.keys; simp only [Xc] at this; simp only [Xc,List.map_cons,h1,this]
theorem U7.nm {ids : List Nat} : ∀ {a b : Objs},U7 ids a b → ∀ q,noMenO q a = true → noMenO q b = true
 | [],[],_,_,h => h
 | [],_ :: _,h,_,_ => h.elim
 | _ :: _,[],h,_,_ => h.elim
 | (i,o) :: a,(j,o') :: b,⟨_,h2,h3⟩,q,h => by
  rw [Y3,Bool.and_eq_true] at h ⊢
  refine ⟨?_,h3.nm q h.2⟩
  rcases h2 with h2 | h2
  ·rw [h2]; exact h.1
  ·rw [h2.2]; rfl
theorem U7.uncons {ids : List Nat} {a X : Objs} {i : Nat} {o : Ob} (h : U7 ids ((i,o) :: a) X) (hi : i ∉ ids) : ∃ b,X = (i,o) :: b ∧ U7 ids a b := by
 match X,h with
 | [],h => exact h.elim
 | (j,o') :: b,⟨h1,h2,h3⟩ =>
  rcases h2 with h2 | h2
  ·exact ⟨b,by rw [h1,h2],h3⟩
  ·exact absurd h2.1 hi
theorem U7.set {ids : List Nat} {k : Nat} (hk : k ∈ ids) : ∀ {ob : Objs},U7 ids ob (setO ob k .gone)
 | [] => trivial
 | (i,x) :: r => by
  by_cases e : i = k
  ·subst e
   rw [Xyo]
   exact ⟨rfl,.inr ⟨hk,rfl⟩,U7.refl _ _⟩
  ·have e' : (i == k) = false := by simpa using e
   rw [Yk _ _ _ _ _ e']
   exact ⟨rfl,.inl rfl,U7.set hk⟩
theorem U7.set' {ids : List Nat} {ob ob' : Objs} {k : Nat} (h : U7 ids ob ob') (hk : k ∈ ids) : U7 ids ob (setO ob' k .gone) := h.trans (U7.set hk)
theorem Xc9 {o n : Int} {z : D} {a : RAtom} (hz : z = .nils ∨ z = .list 14 []) : D.le (.agg [iD o,iD n,z,a.enc]) (RForm.mk o n [] a).enc := by
 rw [RForm.enc_eq]
 refine D.le.agg (D.les.cons (D.le.refl _) (D.les.cons (D.le.refl _) (D.les.cons ?_ (D.les.cons (D.le.refl _) D.les.nil))))
 rcases hz with rfl | rfl
 ·exact D.le.nil 14
 ·exact D.le.refl _
mutual
theorem Xvh : ∀ (f : RForm) (k : Nat) (v : V) (ids : List Nat) (ob : Objs),Zt ob f v ids → ids.Nodup → 2 * f.dep ≤ k → ∃ d ob',V.gvF (k + 1) ob v = some (d,ob') ∧ D.le d f.enc ∧ U7 ids ob ob' ∧ d.shape = v.shape
 | .mk op n [] a,k,v,ids,ob,h,hn,hk => by
  rw [Zt] at h
  obtain ⟨⟨z,hz,rfl⟩,rfl⟩ := h
  exact ⟨_,ob,rfl,Xc9 hz,U7.refl _ _,rfl⟩
 | .mk op n (f :: r) a,k,v,ids,ob,h,hn,hk => by
  rw [Vy (by simp)] at h
  obtain ⟨id,ws,is,rfl,rfl,h1,h2⟩ := h
  rw [RForm.dep] at hk
  obtain ⟨j,rfl⟩ : ∃ j,k = j + 2 := ⟨k - 2,by omega⟩
  obtain ⟨hn1,hn2⟩ := List.nodup_cons.1 hn
  obtain ⟨ds,ob1,g1,g2,g3⟩ := Xvi (f :: r) j ws is ob h2 hn2 (by omega)
  have hl : lookO ob1 id = some (Xw ws) := by rw [g3.look id hn1]; exact h1
  refine ⟨.agg [iD op,iD n,.list 14 ds,a.enc],setO ob1 id .gone,?_,?_,?_,?_⟩
  ·have hsl : V.gvF (j + 2) ob (.sl id ws.length) = some (.list 14 ds,setO ob1 id .gone) := by
    have e : V.gvF (j + 2) ob (.sl id ws.length) = Ybb (V.gvF (j + 1)) ob id ws.length (lookO ob id) := rfl
    rw [e,h1]
    simp only [Xw] at hl ⊢
    simp only [Ybb,g1,gvS,hl,gvT]
    simp
   have hd : ∀ (x : D) (o : Objs),V.gvF (j + 2) o (.d x) = some (x,o) := fun x o => rfl
   have e : V.gvF (j + 2 + 1) ob (.agg [.d (iD op),.d (iD n),.sl id ws.length,.d a.enc]) = Xir (gvL (V.gvF (j + 2)) ob [.d (iD op),.d (iD n),.sl id ws.length,.d a.enc]) := rfl
   rw [e]
   simp only [gvL,hd,hsl,U1,Xir]
  ·rw [RForm.enc_eq]
   exact D.le.agg (D.les.cons (D.le.refl _) (D.les.cons (D.le.refl _) (D.les.cons (D.le.list (by simpa [RForm.kids] using g2)) (D.les.cons (D.le.refl _) D.les.nil))))
  ·exact (g3.mono (fun j hj => List.mem_cons_of_mem _ hj)).set' (by simp)
  ·simp [D.shape,D.shapes,V.shape,V.shapes]
theorem Xvi : ∀ (l : List RForm) (k : Nat) (vs : List V) (ids : List Nat) (ob : Objs),Zb ob l vs ids → ids.Nodup → 2 * Xs1 l ≤ k → ∃ ds ob',gvL (V.gvF (k + 1)) ob vs = some (ds,ob') ∧ D.les ds (l.map RForm.enc) ∧ U7 ids ob ob'
 | [],k,vs,ids,ob,h,hn,hk => by
  rw [Zb] at h
  obtain ⟨rfl,rfl⟩ := h
  exact ⟨[],ob,rfl,D.les.nil,U7.refl _ _⟩
 | f :: r,k,vs,ids,ob,h,hn,hk => by
  rw [Zb] at h
  obtain ⟨v,ws,a,b,rfl,rfl,h1,h2⟩ := h
  rw [Xs1] at hk
  have hn' := List.nodup_append.1 hn
  obtain ⟨d,ob1,g1,g2,g3,g4⟩ := Xvh f k v a ob h1 hn'.1 (by omega)
  have h2' : Zb ob1 r ws b := h2.look (fun j hj => g3.look j (fun ha => hn'.2.2 j ha j hj rfl))
  obtain ⟨ds,ob2,k1,k2,k3⟩ := Xvi r k ws b ob1 h2' hn'.2.1 (by omega)
  refine ⟨d :: ds,ob2,?_,D.les.cons g2 k2,(g3.mono (fun j hj => by simp [hj])).trans (k3.mono (fun j hj => by simp [hj]))⟩
  simp only [gvL,g1,k1,U1]
end
end Go.Sx
/- Contract: a question's names are resolved in place. Condition: the program is the seat's. -/
namespace Go.Sx
open Go Go.Ab Go.Lx
def Yf3 (vv : V) : Prop := vv = .d .nils ∨ ∃ id n,vv = .sl id n
theorem Xrf.vv {ob : Objs} {vs : List RVar} {vv : V} {ids : List Nat} (h : Xrf ob vs vv ids) : Yf3 vv := by
 rcases h with ⟨_,rfl,_⟩ | ⟨_,id,rfl,_⟩
 ·exact .inl rfl
 ·exact .inr ⟨_,_,rfl⟩
theorem X1t {id : Nat} {name : B} {pur : Int} {vv kv : V} {op : Int} (hk : Xvq kv) (hv : Yf3 vv) : FLoc (.ptr id [3]) id (fun n a => .box 44 (qV name pur vv (fV op n kv a))) op kv := by
 refine ⟨by simp [Jo,U5],fun ob n a h => ?_,fun ob n a h => ?_,fun ob n a x K h hK => ?_,fun ob n a K h hK => ?_,fun n a => ?_,fun n a => ?_,fun q n a n' a' => ?_,fun q hq => by simpa [V.men] using hq⟩
 ·rcases hv with rfl | ⟨_,_,rfl⟩ <;> rcases hk with rfl | rfl | ⟨_,_,rfl⟩ <;> simp [h,Xu,Yb,RAtom.enc,RTerm.enc]
 ·rcases hv with rfl | ⟨_,_,rfl⟩ <;> rcases hk with rfl | rfl | ⟨_,_,rfl⟩ <;> simp [h,Xu,Yb,qV,fV,V.mk,V.allD,RAtom.enc,RTerm.enc]
 ·rcases hv with rfl | ⟨_,_,rfl⟩ <;> rcases hk with rfl | rfl | ⟨_,_,rfl⟩ <;> simp [stK,h,Xu,Yb,qV,fV,V.mk,V.allD] at hK ⊢ <;> exact hK
 ·rcases hv with rfl | ⟨_,_,rfl⟩ <;> rcases hk with rfl | rfl | ⟨_,_,rfl⟩ <;> simp [stK,h,Xu,Yb,qV,fV,V.mk,V.allD,RAtom.enc,RTerm.enc] at hK ⊢ <;> exact hK
 ·refine ⟨by simp [Jo,U5],fun ob t k h h5 => ?_,fun ob t h => ?_,fun ob t h => ?_,fun ob t h => ?_,fun ob t h => ?_,fun ob t h => ?_,fun ob t h => ?_,fun ob t x K h hK => ?_,fun ob t x K h hK => ?_,fun t t' q => ?_⟩
  ·rcases hv with rfl | ⟨_,_,rfl⟩ <;> rcases hk with rfl | rfl | ⟨_,_,rfl⟩ <;> rcases k with _ | _ | _ | _ | _ | k <;> first | omega | simp [h,Xu,Yb,RAtom.enc,RTerm.enc]
  all_goals first | (rcases hv with rfl | ⟨_,_,rfl⟩ <;> rcases hk with rfl | rfl | ⟨_,_,rfl⟩ <;> simp [h,Xu,Yb,qV,fV,V.mk,V.allD,RAtom.enc,RTerm.enc]; done) | skip
  all_goals first | (rcases hv with rfl | ⟨_,_,rfl⟩ <;> rcases hk with rfl | rfl | ⟨_,_,rfl⟩ <;> simp [stK,h,Xu,Yb,qV,fV,V.mk,V.allD,RAtom.enc,RTerm.enc] at hK ⊢ <;> exact hK) | skip
  simp [V9]
 ·refine ⟨by simp [Jo,U5],fun ob t k h h5 => ?_,fun ob t h => ?_,fun ob t h => ?_,fun ob t h => ?_,fun ob t h => ?_,fun ob t h => ?_,fun ob t h => ?_,fun ob t x K h hK => ?_,fun ob t x K h hK => ?_,fun t t' q => ?_⟩
  ·rcases hv with rfl | ⟨_,_,rfl⟩ <;> rcases hk with rfl | rfl | ⟨_,_,rfl⟩ <;> rcases k with _ | _ | _ | _ | _ | k <;> first | omega | simp [h,Xu,Yb,RAtom.enc,RTerm.enc]
  all_goals first | (rcases hv with rfl | ⟨_,_,rfl⟩ <;> rcases hk with rfl | rfl | ⟨_,_,rfl⟩ <;> simp [h,Xu,Yb,qV,fV,V.mk,V.allD,RAtom.enc,RTerm.enc]; done) | skip
  all_goals first | (rcases hv with rfl | ⟨_,_,rfl⟩ <;> rcases hk with rfl | rfl | ⟨_,_,rfl⟩ <;> simp [stK,h,Xu,Yb,qV,fV,V.mk,V.allD,RAtom.enc,RTerm.enc] at hK ⊢ <;> exact hK) | skip
  simp [V9]
 ·simp [V9]
theorem Xft {y : RSrc} : ∀ {l d : List RVar} {v : RVar},Wd y l = some d → Wd y (l ++ [v]) = if Xes y v < 0 then none else some (d ++ [Yat v (Xes y v)])
 | [],d,v,h => by
  simp only [Wd] at h
  cases h
  simp only [List.nil_append,Wd]
 | g :: l,d,v,h => by
  simp only [Wd] at h
  split at h
  ·cases h
  ·rename_i hg
   split at h
   ·rename_i l' hl
    cases h
    simp only [List.cons_append,Wd]
    rw [if_neg hg,Xft hl]
    by_cases hs : Xes y v < 0 <;> simp [hs]
   ·cases h
theorem Xfs {y : RSrc} : ∀ {l : List RVar} (r : List RVar),Wd y l = none → Wd y (l ++ r) = none
 | [],r,h => by simp [Wd] at h
 | g :: l,r,h => by
  simp only [Wd] at h
  simp only [List.cons_append,Wd]
  split at h
  ·rename_i hg; rw [if_pos hg]
  ·rename_i hg
   rw [if_neg hg]
   split at h
   ·cases h
   ·rename_i hl
    rw [Xfs r hl]
theorem Xq0 {y : RSrc} : ∀ {l d : List RVar},Wd y l = some d → Xb6 y d
 | [],d,h => by simp only [Wd] at h; cases h; intro v hv; cases hv
 | g :: l,d,h => by
  simp only [Wd] at h
  split at h
  ·cases h
  ·rename_i hg
   split at h
   ·rename_i l' hl
    cases h
    intro v hv
    rcases List.mem_cons.1 hv with rfl | hv
    ·obtain ⟨i,h1,h2,_⟩ := W5 (by simp only [Xes] at hg; exact Int.not_lt.1 hg)
     exact ⟨i,by simp [Yat,Xes,h2],h1⟩
    ·exact Xq0 hl v hv
   ·cases h
@[simp] theorem rV_fold {y : RSrc} {vv : V} : mkO [.d y.enc,vv] (Xb8 y.enc (V.allD [vv])) = rV y vv := by simp [rV]
theorem X1y {ob : Objs} {z j n : Nat} {kd : IntKind} {m : Int} {K : V → Prop} : Jk ob z K (.sl j n) (.d (.int kd m)) = ((0 ≤ m ∧ m < n) ∧ Xgl z (W0 n m.toNat (lookO ob j)) ∧ K (.ep j n z m.toNat 0 [])) := by simp only [Jk]
theorem Xck {ob : Objs} {z j n i f k m : Nat} {p : List Nat} {K : V → Prop} : U2 ob k f K (.ep j n z i m p) = K (.ep j n z i (m + f) (p ++ [k])) := by simp only [U2]
theorem Yc3 {ob : Objs} {z j n i f k : Nat} {b : Bool} {p : List Nat} {K : V → Prop} : ldK ob k b K (.ep j n z i f p) = Xgn k b K (atE ob j n z i f p) := by simp only [ldK]
theorem Chg.less {k : Nat} {ids : List Nat} : ∀ {a b : Objs},Chg (k :: ids) a b → k ∉ Xc a → Chg ids a b
 | [],[],_,_ => trivial
 | [],_ :: _,h,_ => h.elim
 | _ :: _,[],h,_ => h.elim
 | (i,o) :: a,(j,o') :: b,⟨h1,h2,h3,h4⟩,hk => by
  simp only [Xc,List.map_cons,List.mem_cons,not_or] at hk
  refine ⟨h1,h2,fun hi => h3 (fun e => ?_),h4.less hk.2⟩
  rcases List.mem_cons.1 e with e | e
  ·exact hk.1 e.symm
  ·exact hi e
def hd2 : S2 → S2
 | .seq a _ => a
 | x => x
def tl2 : S2 → S2
 | .seq _ b => b
 | x => x
end Go.Sx
namespace Go.Proofs.YtmapdjjigmkbfaaGreatDoor
open Go Go.Ab Go.Lx Go.Sx
set_option maxRecDepth 100000
section
variable {P : Prg} (hP : P.p = Tryz.prog)
include hP
theorem X0i {y : RSrc} (hy : y.small) {q : RQ} {pn : B} {vv fv : V} {a b : List Nat} {ob : Objs} (hV : Xrf ob q.vars vv a) (hF : Zt ob q.form fv b) (hnd : (a ++ b).Nodup) (hwk : q.form.wk) (hsm : q.form.small) (hvl : q.vars.length ≤ 1000000) {K : Out → Objs → Prop}
  (h1 : ∀ x,Xs3 y q pn = some x → ∀ ob' fv',Chg (a ++ b) ob ob' → Xrf ob' x.vars vv a → Zt ob' x.form fv' b → K (.ret (qV x.name x.purpose vv fv')) ob')
  (h0 : Xs3 y q pn = none → ∀ ob',Chg (a ++ b) ob ob' → K (.panic (.d unD)) ob') : ACall P 28 [rV y (.d .nils),qS q.name pn vv fv] ob K := by
 refine Xcz hP mixed Yok Yrw TOk.nil fun _ hm => ?_
 obtain ⟨kv,rfl,hK⟩ := Qr.1 hF
 obtain ⟨u1,u2,u3,u4⟩ := hK.leaf
 have hvv := hV.vv
 have vl : vv.shape = .leaf ∧ vv.sto = true := by rcases hvv with rfl | ⟨_,_,rfl⟩ <;> exact ⟨rfl,rfl⟩
 have fs : (fV q.form.op q.form.n kv q.form.atom).shape.size = 14 := by simp [Xu,u1]
 have fs2 : (qV q.name 0 vv (fV q.form.op q.form.n kv q.form.atom)).shape.size = 17 := by simp [Yb,Xu,u1,vl.1]
 obtain ⟨z,hz⟩ : ∃ z,z = fresh ob := ⟨_,rfl⟩
 have hmz : ∀ kp,noMenO (young z kp) ob = true := by rw [hz]; exact hm
 obtain ⟨OB,hOB⟩ : ∃ OB : V → V → V → Objs → Objs,OB = fun rv qv rs X => (z + 3,.box 44 qv) :: (z + 2,.box 44 rs) :: (z + 1,.box 93 (qS q.name pn vv (fV q.form.op q.form.n kv q.form.atom))) :: (z,.box 96 rv) :: X := ⟨_,rfl⟩
 have idl : ∀ j ∈ a ++ b,j < z := fun j hj => by
  rw [hz]
  rcases List.mem_append.1 hj with hj | hj
  ·rcases hV with ⟨_,_,rfl⟩ | ⟨_,id,_,rfl,hl⟩
   ·cases hj
   ·rw [List.mem_singleton.1 hj]; exact Xt hl
  ·obtain ⟨o,ho⟩ := hF.ex j hj
   exact Xt ho
 have drp : ∀ rv qv rs X,Xc X = Xc ob → Xy (young z []) (OB rv qv rs X) = X := fun rv qv rs X hX => by
  rw [hOB]
  have y3 : young z [] (z + 3) = true := by simp [young]
  have y2 : young z [] (z + 2) = true := by simp [young]
  have y1 : young z [] (z + 1) = true := by simp [young]
  have y0 : young z [] z = true := by simp [young]
  simp only [Xy,y3,y2,y1,y0,if_true]
  exact X8 (fun j hj => by have := X2 hj; rw [Yd hX,← hz] at this; simp [young]; omega)
 have lpan : ∀ rv qv rs X,Chg (a ++ b) ob X → K (.panic (.d unD)) X → Xx z (K (.panic (.d unD))) [.d unD] (OB rv qv rs X) := fun rv qv rs X hX h => by
  exact ⟨[],by simp [V.mens,V.men],by rw [drp _ _ _ _ hX.keys,hX.nm]; exact hmz [],by rw [drp _ _ _ _ hX.keys]; exact h⟩
 have hls : ∀ rv qv rs X,lookO (OB rv qv rs X) (z + 3) = some (.box 44 qv) ∧ lookO (OB rv qv rs X) (z + 2) = some (.box 44 rs) ∧ lookO (OB rv qv rs X) z = some (.box 96 rv) := fun rv qv rs X => by
  rw [hOB]; simp
 have hss : ∀ rv qv rs X qv',setO (OB rv qv rs X) (z + 3) (.box 44 qv') = OB rv qv' rs X := fun rv qv rs X qv' => by
  rw [hOB]; simp
 have hsr : ∀ rv qv rs X rv',setO (OB rv qv rs X) z (.box 96 rv') = OB rv' qv rs X := fun rv qv rs X rv' => by
  rw [hOB]; simp
 have hst : ∀ rv qv rs X rs',setO (OB rv qv rs X) (z + 2) (.box 44 rs') = OB rv qv rs' X := fun rv qv rs X rs' => by
  rw [hOB]; simp
 have hsX : ∀ rv qv rs X j o,j < z → setO (OB rv qv rs X) j o = OB rv qv rs (setO X j o) := fun rv qv rs X j o hj => by
  rw [hOB]
  simp only
  rw [Yk _ _ _ _ _ (by simp; omega),Yk _ _ _ _ _ (by simp; omega),Yk _ _ _ _ _ (by simp; omega),Yk _ _ _ _ _ (by simp; omega)]
 have hlX : ∀ rv qv rs X j,j < z → lookO (OB rv qv rs X) j = lookO X j := fun rv qv rs X j hj => by
  rw [hOB]
  simp only
  rw [Xq _ _ _ _ (by simp; omega),Xq _ _ _ _ (by simp; omega),Xq _ _ _ _ (by simp; omega),Xq _ _ _ _ (by simp; omega)]
 simp [Yqg,Z0,Xcq,Yb,Xu,u1,u2,vl.1,vl.2]
 rw [← hz]
 obtain ⟨rz,hrz⟩ : ∃ rz : V,rz = .d (.agg [.str [],iD 0,.nils,Yi]) := ⟨_,rfl⟩
 have hob0 : ∀ qv,(z + 3,Ob.box 44 qv) :: (z + 2,Ob.box 44 (.d (.agg [.str [],iD 0,.nils,Yi]))) :: (z + 1,Ob.box 93 (qS q.name pn vv (fV q.form.op q.form.n kv q.form.atom))) :: (z,Ob.box 96 (rV y (.d .nils))) :: ob = OB (rV y (.d .nils)) qv rz ob := fun qv => by rw [hOB,hrz]
 simp only [Yi] at hob0
 rw [hob0]
 refine ⟨Xx7,⟨rfl,rfl⟩,?_⟩
 refine Xiw hP hy.purposes ?_
 by_cases hp : Xi RPurpose.name y.purposes pn 0 < 0
 ·simp [Ym,hp]
  refine W8 hP _ _ (fun h => by cases h) (fun _ => ?_)
  simp
  exact lpan _ _ _ _ (Chg.refl _ _) (h0 (by rw [Xs3,Xdw,if_pos hp]) _ (Chg.refl _ _))
 simp [Ym,hp]
 refine W8 hP _ _ (fun _ => ?_) (fun h => by cases h)
 have m1 : ∀ rv qv rs X,lookO (OB rv qv rs X) (z + 3) = some (.box 44 qv) := fun rv qv rs X => (hls rv qv rs X).1
 have m2 : ∀ rv qv rs X,lookO (OB rv qv rs X) (z + 2) = some (.box 44 rs) := fun rv qv rs X => (hls rv qv rs X).2.1
 have m3 : ∀ rv qv rs X,lookO (OB rv qv rs X) z = some (.box 96 rv) := fun rv qv rs X => (hls rv qv rs X).2.2
 have rzs : rz.shape = .node [.leaf,.leaf,.leaf,.node [.leaf,.leaf,.leaf,.node [.leaf,.node [.leaf,.leaf,.leaf,.leaf,.leaf],.node [.leaf,.leaf,.leaf,.leaf,.leaf]]]] := by rw [hrz]; rfl
 have rza : rz.isAgg = true := by rw [hrz]; rfl
 have cdec : ∀ rv qv rs X ob',Xc X = Xc ob → Chg ((z + 3) :: b) (OB rv qv rs X) ob' → ∃ o' X',ob' = setO (OB rv qv rs X') (z + 3) o' ∧ Chg b X X' := by
  intro rv qv rs X ob' hkX hc
  rw [hOB] at hc ⊢
  match ob',hc with
  | (j,o') :: r,⟨c1,_,_,c4⟩ =>
   subst c1
   have nb : ∀ j,z ≤ j → j < z + 3 → j ∉ (z + 3) :: b := fun j h1 h2 e => by
    rcases List.mem_cons.1 e with e | e
    ·omega
    ·have := idl j (List.mem_append_right _ e); omega
   obtain ⟨r1,rfl,c5⟩ := c4.uncons (nb _ (by omega) (by omega))
   obtain ⟨r2,rfl,c6⟩ := c5.uncons (nb _ (by omega) (by omega))
   obtain ⟨r3,rfl,c7⟩ := c6.uncons (nb _ (by omega) (by omega))
   refine ⟨o',r3,by simp,c7.less (fun e => ?_)⟩
   have := X2 e
   rw [Yd hkX,← hz] at this
   omega
 have ymen : ∀ j,j < z → young z [] j = false := fun j hj => by simp [young]; omega
 have hpi : Xdw y pn = Xi RPurpose.name y.purposes pn 0 := rfl
 have hnd' := List.nodup_append.1 hnd
 simp [m1,Yb,hss,← hpi]
 rw [← hpi] at hp
 have e3 : Ql = .seq (hd2 Ql) (tl2 Ql) := rfl
 have fin : ∀ X vs,Wd y q.vars = some vs → Chg (a ++ b) ob X → Xrf X vs vv a → Xpk X q.form.kids kv b → ∀ rest,Zc P [] (tl2 Ql) (Xiy z [RV.c 4 17 true] K) ((2,.ptr z []) :: (4,.ptr (z + 2) []) :: (5,.ptr (z + 3) []) :: rest) (OB (rV y (.d .nils)) (qV q.name (Xdw y pn) vv (fV q.form.op q.form.n kv q.form.atom)) rz X) := by
  intro X vs hvs hX hVX hKX rest
  have hva : vv.isAgg = false := by rcases hvv with rfl | ⟨_,_,rfl⟩ <;> rfl
  have hys : y.enc.shape.size = 6 := rfl
  simp [tl2,Xlc,m1,m2,m3,Yb,Z0,Xu,u1,u2,vl.1,vl.2,hsr]
  refine ⟨hys,hva,hys,hva,Xdx,?_⟩
  refine X3g hP hy (vs := vs) (by rw [Qo hvs]; exact hvl) (Xq0 hvs) q.form vv (.ptr (z + 3) [3]) (z + 3) (fun n a => .box 44 (qV q.name (Xdw y pn) vv (fV q.form.op n kv a))) kv b (OB (rV y vv) (qV q.name (Xdw y pn) vv (fV q.form.op q.form.n kv q.form.atom)) rz X) _ hwk hsm (X1t hKX.kv hvv) (m1 _ _ _ _) (hKX.look (fun j hj => hlX _ _ _ _ _ (idl j (List.mem_append_right _ hj)))) (List.nodup_cons.2 ⟨fun e => by have := idl _ (List.mem_append_right a e); omega,hnd'.2.1⟩) ?_ ?_ ?_
  ·intro ob' hc
   rcases hVX with ⟨e,rfl,_⟩ | ⟨hne,id,rfl,rfl,hl⟩
   ·exact .inl ⟨e,rfl⟩
   ·have hid := idl id (by simp)
    refine .inr ⟨id,rfl,?_⟩
    rw [hc.look id (fun e => by
     rcases List.mem_cons.1 e with e | e
     ·omega
     ·exact hnd'.2.2 id (by simp) id e rfl),hlX _ _ _ _ _ hid]
    exact hl
  ·intro f' hf' ob' hc hlo hkr
   obtain ⟨o',X',rfl,hX'⟩ := cdec _ _ _ _ _ hX.keys hc
   rw [Xaj (m1 _ _ _ _)] at hlo
   cases hlo
   try simp only at hc hkr ⊢
   rw [hss] at hc hkr ⊢
   have hfs : (fV q.form.op f'.n kv f'.atom).shape.size = 14 := by simp [Xu,u1]
   simp [X6t,m1,m2,Yb,Xu,u1,vl.1,vl.2,u2,rzs,hst]
   refine ⟨Xx7,[],?_,?_,?_⟩
   ·have g1 : V.men (young z []) vv = false := by
     rcases hVX with ⟨_,rfl,_⟩ | ⟨_,id,rfl,rfl,_⟩
     ·rfl
     ·simp only [V.men]; exact ymen id (idl id (by simp))
    have g2 : V.men (young z []) kv = false := by
     rcases hKX with ⟨_,rfl | rfl,_⟩ | ⟨_,id,ws,is,rfl,rfl,_⟩
     ·rfl
     ·rfl
     ·simp only [V.men]; exact ymen id (idl id (by simp))
    simp [V.mens,g1,g2]
   ·rw [drp _ _ _ _ (by rw [hX'.keys,hX.keys]),hX'.nm,hX.nm]; exact hmz []
   ·rw [drp _ _ _ _ (by rw [hX'.keys,hX.keys])]
    refine h1 ⟨q.name,Xdw y pn,vs,f'⟩ (by rw [Xs3,if_neg hp]; simp only [hvs,hf']) X' _ (hX.trans (hX'.mono (fun j hj => List.mem_append_right _ hj))) ?_ (Qr.2 ⟨kv,by rw [Xye hf'],hkr.look (fun j hj => (hlX _ _ _ _ _ (idl j (List.mem_append_right _ hj))).symm)⟩)
    rcases hVX with h | ⟨hne,id,e1,e2,hl⟩
    ·exact .inl h
    ·refine .inr ⟨hne,id,e1,e2,?_⟩
     rw [hX'.look id (fun e => hnd'.2.2 id (by simp [e2]) id e rfl)]
     exact hl
  ·intro hf' ob' hc
   obtain ⟨o',X',rfl,hX'⟩ := cdec _ _ _ _ _ hX.keys hc
   have hd : Xy (young z []) (setO (OB (rV y vv) (qV q.name (Xdw y pn) vv (fV q.form.op q.form.n kv q.form.atom)) rz X') (z + 3) o') = X' := by
    have := drp (rV y vv) (qV q.name (Xdw y pn) vv (fV q.form.op q.form.n kv q.form.atom)) rz X' (by rw [hX'.keys,hX.keys])
    rw [hOB] at this ⊢
    simp only [Xy] at this
    simp [Xy]
    exact X8 (fun j hj => by have := X2 hj; rw [Yd (hX'.keys.trans hX.keys),← hz] at this; simp [young]; omega)
   exact ⟨[],by simp [V.mens,V.men],by rw [hd,hX'.nm,hX.nm]; exact hmz [],by rw [hd]; exact h0 (by rw [Xs3,if_neg hp]; simp only [hvs,hf']) _ (hX.trans (hX'.mono (fun j hj => List.mem_append_right _ hj)))⟩
 rw [e3,qn]
 generalize tl2 Ql = r2 at fin ⊢
 rcases hV with ⟨e0,rfl,rfl⟩ | ⟨hne,id,rfl,rfl,hid⟩
 ·simp [hd2,Xlc,m1,Yb]
  refine ALoop.upto 0 (fun _ => [(2,V.ptr z []),(4,V.ptr (z + 2) []),(5,V.ptr (z + 3) []),(20,V.d (D.int IntKind.i64 0)),(21,V.d (D.int IntKind.i64 0))]) (fun _ => OB (rV y (.d .nils)) (qV q.name (Xdw y pn) (.d .nils) (fV q.form.op q.form.n kv q.form.atom)) rz ob) (fun _ => True) trivial (by simp) rfl (fun k hk => by omega) (fun _ R re rr rp => ?_)
  simp [Xlb]
  refine re 0 _ _ ?_
  simp
  exact fin ob [] (by rw [e0]; rfl) (Chg.refl _ _) (.inl ⟨rfl,rfl,rfl⟩) hK _
 ·have hidz : id < z := idl id (by simp)
  simp [hd2,Xlc,m1,Yb,hlX _ _ _ _ _ hidz,hid]
  have hnb : id ∉ b := fun e => hnd'.2.2 id (by simp) id e rfl
  refine ALoop.go (ι := Nat × Objs) (fun i => [(2,.ptr z []),(4,.ptr (z + 2) []),(5,.ptr (z + 3) []),(20,.d (.int .i64 q.vars.length)),(21,.d (.int .i64 i.1))]) (fun i => OB (rV y (.d .nils)) (qV q.name (Xdw y pn) (.sl id q.vars.length) (fV q.form.op q.form.n kv q.form.atom)) rz i.2)
   (fun i => i.1 ≤ q.vars.length ∧ Chg [id] ob i.2 ∧ ∃ d,Wd y (q.vars.take i.1) = some d ∧ lookO i.2 id = some (.arr 63 4 ((d ++ q.vars.drop i.1).map RVar.enc))) (fun i => q.vars.length - i.1) (0,ob) ⟨Nat.zero_le _,Chg.refl _ _,[],by simp [Wd],by simpa using hid⟩ (by simp [Xe]) rfl ?_
  rintro ⟨i,X⟩ ⟨hi,hcx,d,hd,hlx⟩ R rn re rr rp
  simp only at hi hcx hd hlx ⊢
  have hcX : Chg ([id] ++ b) ob X := hcx.mono (fun j hj => List.mem_append_left _ hj)
  rcases Nat.lt_or_ge i q.vars.length with hlt | hge
  ·have hdl := Qo hd
   rw [List.length_take,Nat.min_eq_left hi] at hdl
   have hget : ((d ++ q.vars.drop i).map RVar.enc)[i]? = some q.vars[i].enc := by
    rw [List.map_append,List.getElem?_append_right (by simp [hdl])]
    simp [hdl,hlt]
   have hln : d.length + (q.vars.length - i) = q.vars.length := by omega
   have hel : W0 q.vars.length i (some (.arr 63 4 ((d ++ q.vars.drop i).map RVar.enc))) = some (.d q.vars[i].enc) := by
    rw [J2,if_pos (by simp; omega),List.getElem?_map,hget]; rfl
   obtain ⟨W,hW⟩ : ∃ W,W = (d ++ q.vars.drop i).map RVar.enc := ⟨_,rfl⟩
   rw [← hW] at hlx hel
   have idl' : ∀ K' : V → Prop,∀ X',lookO X' id = some (.arr 63 4 W) → K' (.ep id q.vars.length 4 i 0 []) → Jk (OB (rV y (.d .nils)) (qV q.name (Xdw y pn) (.sl id q.vars.length) (fV q.form.op q.form.n kv q.form.atom)) rz X') 4 K' (.sl id q.vars.length) (.d (.int .i64 i)) := fun K' X' hl h => by
    rw [X1y,hlX _ _ _ _ _ hidz,hl]
    refine ⟨⟨by omega,by omega⟩,?_,h⟩
    simp [-J2,hel,RVar.enc]
   simp [Xlb,hlt,m1,m3,Yb,Z0]
   refine ⟨rfl,rfl,idl' _ X hlx ?_⟩
   simp [-J2,Xck,Yc3,hlX _ _ _ _ _ hidz,hlx,hel,RVar.enc]
   have hsn : Wd y (q.vars.take (i + 1)) = if Xes y q.vars[i] < 0 then none else some (d ++ [Yat q.vars[i] (Xes y q.vars[i])]) := by rw [List.take_succ_eq_append_getElem hlt,Xft hd]
   have hsch : Xes y q.vars[i] = Xi RSchema.name y.schemas q.vars[i].kind 0 := rfl
   have leaf : ¬ Xes y q.vars[i] < 0 → stK (OB (rV y (.d .nils)) (qV q.name (Xdw y pn) (.sl id q.vars.length) (fV q.form.op q.form.n kv q.form.atom)) rz X) 1 (.d (.int .i64 (Xes y q.vars[i]))) (fun v ob' => Zc P [] Xhr R [(2,V.ptr z []),(4,V.ptr (z + 2) []),(5,V.ptr (z + 3) []),(20,V.d (D.int IntKind.i64 q.vars.length)),(21,V.d (D.int IntKind.i64 i))] ob') (.ep id q.vars.length 4 i 2 [2]) := fun hs => by
    simp [-J2,stK,Xzv,X27,Xzw,hlX _ _ _ _ _ hidz,hlx,hel,RVar.enc]
    rw [hsX _ _ _ _ _ _ hidz]
    obtain ⟨X',hX'⟩ : ∃ X',X' = setO X id (.arr 63 4 (W.set i (Yat q.vars[i] (Xes y q.vars[i])).enc)) := ⟨_,rfl⟩
    have e5 : setO X id (Xcc (.arr 63 4 W) i (V.d (D.agg [D.str q.vars[i].name,D.str q.vars[i].kind,D.int IntKind.i64 (Xes y q.vars[i]),D.bool q.vars[i].other]))) = X' := by rw [hX']; rfl
    rw [e5]
    have hc1 : Chg [id] X X' := by rw [hX']; exact Chg.set (o := .arr 63 4 W) (o' := .arr 63 4 (W.set i (Yat q.vars[i] (Xes y q.vars[i])).enc)) (List.mem_singleton.2 rfl) (fun q => rfl) hlx
    have hfX : fresh X = z := by rw [hz]; exact Yd hcx.keys
    have hfX' : fresh X' = z := by rw [hz]; exact Yd (hc1.keys.trans hcx.keys)
    simp [X6u]
    have hw1 : IntKind.i64.wrap ((i : Int) + 1) = (i : Int) + 1 := IntWalk.i64_in _ (by omega)
    refine rn [] (i + 1,X') _ _ ⟨by simp only; omega,hcx.trans hc1,d ++ [Yat q.vars[i] (Xes y q.vars[i])],by rw [hsn,if_neg hs],?_⟩ (by simp only; omega) (by simp [hw1]) ?_ ?_ ?_
    ·simp only
     rw [hX',Xaj hlx,hW,List.drop_eq_getElem_cons hlt,List.map_append,List.map_cons,List.set_append_right _ _ (by simp [hdl]),List.length_map,hdl,Nat.sub_self,List.set_cons_zero]
     simp
    ·have hfO : fresh (OB (rV y (.d .nils)) (qV q.name (Xdw y pn) (.sl id q.vars.length) (fV q.form.op q.form.n kv q.form.atom)) rz X) = z + 4 := by rw [hOB]; simp [fresh,hfX]
     show Xy (young (fresh (OB (rV y (.d .nils)) (qV q.name (Xdw y pn) (.sl id q.vars.length) (fV q.form.op q.form.n kv q.form.atom)) rz X)) []) _ = _
     rw [hfO]
     refine X8 (fun j hj => ?_)
     rw [hOB] at hj
     have : j < z + 4 := by
      simp only [Xc,List.map_cons,List.mem_cons] at hj
      rcases hj with rfl | rfl | rfl | rfl | hj
      ·omega
      ·omega
      ·omega
      ·omega
      ·have := X2 (ob := X') hj
       omega
     simp [young]; omega
    ·have hfO : fresh (OB (rV y (.d .nils)) (qV q.name (Xdw y pn) (.sl id q.vars.length) (fV q.form.op q.form.n kv q.form.atom)) rz X) = z + 4 := by rw [hOB]; simp [fresh,hfX]
     show Uw (young (fresh (OB (rV y (.d .nils)) (qV q.name (Xdw y pn) (.sl id q.vars.length) (fV q.form.op q.form.n kv q.form.atom)) rz X)) []) _ = true
     rw [hfO]
     simp [V.men,young]
     try omega
    ·have hfO : fresh (OB (rV y (.d .nils)) (qV q.name (Xdw y pn) (.sl id q.vars.length) (fV q.form.op q.form.n kv q.form.atom)) rz X) = z + 4 := by rw [hOB]; simp [fresh,hfX]
     show noMenO (young (fresh (OB (rV y (.d .nils)) (qV q.name (Xdw y pn) (.sl id q.vars.length) (fV q.form.op q.form.n kv q.form.atom)) rz X)) []) (OB (rV y (.d .nils)) (qV q.name (Xdw y pn) (.sl id q.vars.length) (fV q.form.op q.form.n kv q.form.atom)) rz X') = true
     rw [hfO]
     have y4 : ∀ j,j < z + 4 → young (z + 4) [] j = false := fun j hj => by simp [young]; omega
     have g2 : V.men (young (z + 4) []) kv = false := by
      rcases hK with ⟨_,rfl | rfl,_⟩ | ⟨_,id',ws,is,rfl,rfl,_⟩
      ·rfl
      ·rfl
      ·simp only [V.men]; exact y4 id' (by have := idl id' (by simp); omega)
     have g3 : noMenO (young (z + 4) []) X' = true := by rw [hc1.nm,hcx.nm]; exact noMenO_up (ob := ob) hm (by omega)
     rw [hOB]
     simp only [Y3,g3]
     simp [V9,g2,V.men,y4 id (by omega),hrz]
   have pan : Xes y q.vars[i] < 0 → R (.panic (.d unD)) [] (OB (rV y (.d .nils)) (qV q.name (Xdw y pn) (.sl id q.vars.length) (fV q.form.op q.form.n kv q.form.atom)) rz X) := fun hs => by
    refine rp _ _ _ ?_
    simp
    refine lpan _ _ _ _ hcX (h0 ?_ _ hcX)
    have e2 : q.vars = q.vars.take (i + 1) ++ q.vars.drop (i + 1) := (List.take_append_drop _ _).symm
    have e4 : Wd y q.vars = none := by
     rw [e2]
     exact Xfs _ (by rw [hsn,if_pos hs])
    rw [Xs3,if_neg hp]
    simp only [e4]
   refine ⟨Xf5 hP hy.schemas ?_,Xf5 hP hy.schemas ?_⟩
   ·rw [← hsch]
    by_cases hs : Xes y q.vars[i] < 0
    ·simp [Ym,hs,Xp0]
     refine W8 hP _ _ (fun e => by cases e) (fun _ => ?_)
     simp
     exact pan hs
    ·simp [Ym,hs,Xp0]
     refine W8 hP _ _ (fun _ => ?_) (fun e => by cases e)
     simp
     refine idl' _ X hlx ?_
     simp [Xck]
     exact leaf hs
   ·rw [← hsch]
    by_cases hs : Xes y q.vars[i] < 0
    ·simp [Ym,hs,Xp0]
     refine ⟨W8 hP _ _ (fun e => by cases e) (fun _ => ?_),W8 hP _ _ (fun e => by cases e) (fun _ => ?_)⟩
     ·simp
      exact pan hs
     ·simp
      exact pan hs
    ·simp [Ym,hs,Xp0]
     refine ⟨W8 hP _ _ (fun _ => ?_) (fun e => by cases e),W8 hP _ _ (fun _ => ?_) (fun e => by cases e)⟩
     ·simp
      refine idl' _ X hlx ?_
      simp [Xck]
      exact leaf hs
     ·simp [m1]
      refine idl' _ X hlx ?_
      simp [Xck]
      exact leaf hs
  ·have hik : i = q.vars.length := by omega
   subst hik
   simp [Xlb]
   refine re 0 _ _ ?_
   simp
   rw [List.take_length] at hd
   rw [List.drop_length,List.append_nil] at hlx
   have hdl := Qo hd
   refine fin X d hd hcX (.inr ⟨fun e => hne (List.length_eq_zero_iff.1 (by rw [← hdl,e]; rfl)),id,by rw [hdl],rfl,hlx⟩) (hK.look (fun j hj => hcx.look j (fun e => hnb (List.mem_singleton.1 e ▸ hj)))) _
end
end Go.Proofs.YtmapdjjigmkbfaaGreatDoor
/- Contracts: the map of readers; the deferred function that turns failures into errors. Condition: the program is the seat's. -/
namespace Go.Sx
open Go Go.Ab Go.Lx
abbrev Z4 : D := .agg [.str [],iD 0,.nils,Yi]
theorem zero_le : D.le Z4 Js.enc := by
 rw [RQ.enc,Js]
 refine D.le.agg (D.les.cons (D.le.refl _) (D.les.cons (D.le.refl _) (D.les.cons (D.le.nil 4) (D.les.cons ?_ D.les.nil))))
 exact Xc9 (o := 0) (n := 0) (a := Yr) (.inl rfl)
end Go.Sx
namespace Go.Proofs.YtmapdjjigmkbfaaGreatDoor
open Go Go.Ab Go.Lx Go.Sx
set_option maxRecDepth 100000
section
variable {P : Prg} (hP : P.p = Tryz.prog)
include hP
theorem Xt2 {ob : Objs} {p : Nat} (hp : p < fresh ob) {K : Out → Objs → Prop} (h : K (.ret (.mp (fresh ob + 1))) ((fresh ob + 1,X1v (fresh ob)) :: (fresh ob,.box 87 (.ptr p [])) :: ob)) : ACall P 26 [.ptr p []] ob K := by
 refine acall_lift hP mixed Yoi Yru TOk.nil fun _ hm => ?_
 simp +decide [Yqe]
 obtain ⟨z,hz⟩ : ∃ z,z = fresh ob := ⟨_,rfl⟩
 rw [← hz] at h hp hm ⊢
 have y0 : young z [z,z + 1] z = false := by simp [young]
 have y1 : young z [z,z + 1] (z + 1) = false := by simp [young]
 have yp : young z [z,z + 1] p = false := by simp [young]; omega
 have hd : Xy (young z [z,z + 1]) ((z + 1,X1v z) :: (z,.box 87 (.ptr p [])) :: ob) = (z + 1,X1v z) :: (z,.box 87 (.ptr p [])) :: ob := by
  refine X8 (fun j hj => ?_)
  simp only [Xc,List.map_cons,List.mem_cons] at hj
  rcases hj with rfl | rfl | hj
  ·exact y1
  ·exact y0
  ·have := X2 (ob := ob) hj
   simp [young]; omega
 refine ⟨[z,z + 1],by simp [V.mens,V.men,y1],?_,?_⟩
 ·rw [X1v] at hd
  rw [hd]
  simp [noMenO,hm,V.men,V.mens,Jn,y0,yp]
 ·rw [X1v] at hd h
  rw [hd]
  exact h
theorem Ylc {ob : Objs} {a b c : Nat} {K : Objs → Prop} (h : K ob) : DCall P 25 [.ptr a [],.ptr b [],.ptr c []] ob none K := by
 refine DCall.of_wf fun _ hm => ?_
 refine V3 hP mixed Ygn Yj6 Yj5 TOk.nil ?_
 simp [Xql,Xqk,Yhc]
 refine ⟨[],by simp,?_,?_⟩
 ·simp [hm]
 ·simpa using h
theorem Ycf {ob : Objs} {i : Int} {x : D} {n m : Int} (h1 : lookO ob 1 = some (.box 44 (.d x))) (hx : x.shape = Z4.shape) (h2 : lookO ob 2 = some (.box 3 (.d (.int .i64 n)))) (h3 : lookO ob 3 = some (.box 45 (.d (.int .i64 m)))) {K : Objs → Prop} (h : K (setO (setO (setO ob 1 (.box 44 (.d Z4))) 2 (.box 3 (.d (.int .i64 i)))) 3 (.box 45 (.d (.int .i64 100))))) :
  DCall P 25 [.ptr 1 [],.ptr 2 [],.ptr 3 []] ob (some (.d (.iface 84 (.int .i64 i)))) K := by
 refine DCall.of_wf fun _ hm => ?_
 refine V3 hP mixed Ygn Yj6 Yj5 TOk.nil ?_
 simp [Xql,Xqk,Yhc,h1,h2,h3,hx]
 have hk : ∀ j ∈ Xc (setO (setO (setO ob 1 (.box 44 (.d Z4))) 2 (.box 3 (.d (.int .i64 i)))) 3 (.box 45 (.d (.int .i64 100)))),young (fresh ob) [] j = false := fun j hj => by
  rw [Ya,Ya,Ya] at hj
  have := X2 hj
  simp [young]; omega
 have hn : noMenO (young (fresh ob) []) (setO (setO (setO ob 1 (.box 44 (.d Z4))) 2 (.box 3 (.d (.int .i64 i)))) 3 (.box 45 (.d (.int .i64 100)))) = true := noMenO_set_box _ _ _ _ _ (noMenO_set_box _ _ _ _ _ (noMenO_set_box _ _ _ _ _ (hm []) rfl) rfl) rfl
 refine ⟨rfl,rfl,[],by simp,?_,?_⟩
 ·have hd := X8 hk
  simp only [Z4,Yi] at hd hn
  rw [hd]
  exact hn
 ·have hd := X8 hk
  simp only [Z4,Yi] at hd h
  rw [hd]
  exact h
theorem Yri {ob : Objs} {x : D} {n m : Int} (h1 : lookO ob 1 = some (.box 44 (.d x))) (hx : x.shape = Z4.shape) (h2 : lookO ob 2 = some (.box 3 (.d (.int .i64 n)))) (h3 : lookO ob 3 = some (.box 45 (.d (.int .i64 m)))) {K : Objs → Prop} (h : K (setO (setO (setO ob 1 (.box 44 (.d Z4))) 2 (.box 3 (.d (.int .i64 0)))) 3 (.box 45 (.d (.int .i64 210))))) :
  DCall P 25 [.ptr 1 [],.ptr 2 [],.ptr 3 []] ob (some (.d unD)) K := by
 refine DCall.of_wf fun _ hm => ?_
 refine V3 hP mixed Ygn Yj6 Yj5 TOk.nil ?_
 simp [Xql,Xqk,Yhc,h1,h2,h3,hx]
 have hk : ∀ j ∈ Xc (setO (setO (setO ob 1 (.box 44 (.d Z4))) 2 (.box 3 (.d (.int .i64 0)))) 3 (.box 45 (.d (.int .i64 210)))),young (fresh ob) [] j = false := fun j hj => by
  rw [Ya,Ya,Ya] at hj
  have := X2 hj
  simp [young]; omega
 have hn : noMenO (young (fresh ob) []) (setO (setO (setO ob 1 (.box 44 (.d Z4))) 2 (.box 3 (.d (.int .i64 0)))) 3 (.box 45 (.d (.int .i64 210)))) = true := noMenO_set_box _ _ _ _ _ (noMenO_set_box _ _ _ _ _ (noMenO_set_box _ _ _ _ _ (hm []) rfl) rfl) rfl
 have y0 : young (fresh ob) [] (fresh ob) = true := by simp [young]
 refine ⟨rfl,rfl,[],by simp,?_,?_⟩
 ·have hd := X8 hk
  simp only [Z4,Yi] at hd hn
  simp only [Xy,y0,if_true]
  rw [hd]
  exact hn
 ·have hd := X8 hk
  simp only [Z4,Yi] at hd h
  simp only [Xy,y0,if_true]
  rw [hd]
  exact h
end
end Go.Proofs.YtmapdjjigmkbfaaGreatDoor
/- Contract: questions.Parse at any source. Condition: the program is the seat's. -/
namespace Go.Sx
open Go Go.Ab Go.Lx
theorem Xvg {k : Nat} : ∀ {vs : List V} {xs : List D} (ob : Objs),V.allD vs = some xs → gvL (V.gvF (k + 1)) ob vs = some (xs,ob)
 | [],xs,ob,h => by simp only [V.allD] at h; cases h; rfl
 | v :: r,xs,ob,h => by
  cases v with
  | d x =>
   simp only [V.allD] at h
   cases hr : V.allD r with
   | none => simp [hr,Xb8] at h
   | some l =>
    simp [hr,Xb8] at h
    subst h
    have hd : ∀ (x : D) (o : Objs),V.gvF (k + 1) o (.d x) = some (x,o) := fun x o => rfl
    simp only [gvL,hd,Xvg ob hr,U1]
  | _ => simp [V.allD] at h
theorem Yhu {k : Nat} {vs : List V} {ds : List D} {ob ob' : Objs} (h : gvL (V.gvF (k + 1)) ob vs = some (ds,ob')) : V.gvF (k + 2) ob (V.mk vs) = some (.agg ds,ob') := by
 unfold V.mk
 cases ha : V.allD vs with
 | none =>
  have e : V.gvF (k + 2) ob (.agg vs) = Xir (gvL (V.gvF (k + 1)) ob vs) := rfl
  simp only [e,h,Xir]
 | some xs =>
  rw [Xvg ob ha] at h
  cases h
  rfl
theorem Yrj {x : RQ} {vv fv : V} {a b : List Nat} {ob : Objs} {k : Nat} (hV : Xrf ob x.vars vv a) (hF : Zt ob x.form fv b) (hn : (a ++ b).Nodup) (hk : 2 * x.form.dep ≤ k) :
  ∃ d ob',V.gvF (k + 2) ob (qV x.name x.purpose vv fv) = some (d,ob') ∧ D.le d x.enc ∧ U7 (a ++ b) ob ob' ∧ d.shape = (qV x.name x.purpose vv fv).shape := by
 have hn' := List.nodup_append.1 hn
 have hv : ∃ dv ob1,V.gvF (k + 1) ob vv = some (dv,ob1) ∧ D.le dv (.list 4 (x.vars.map RVar.enc)) ∧ U7 a ob ob1 ∧ dv.shape = vv.shape := by
  rcases hV with ⟨e,rfl,rfl⟩ | ⟨hne,id,rfl,rfl,hl⟩
  ·exact ⟨.nils,ob,rfl,by rw [e]; exact D.le.nil 4,U7.refl _ _,rfl⟩
  ·refine ⟨.list 4 (x.vars.map RVar.enc),setO ob id .gone,?_,D.le.refl _,U7.set (by simp),rfl⟩
   have e : V.gvF (k + 1) ob (.sl id x.vars.length) = Ybb (V.gvF k) ob id x.vars.length (lookO ob id) := rfl
   rw [e,hl]
   simp [Ybb]
 obtain ⟨dv,ob1,v1,v2,v3,v4⟩ := hv
 obtain ⟨df,ob2,f1,f2,f3,f4⟩ := Xvh x.form k fv b ob1 (hF.look (fun j hj => v3.look j (fun e => hn'.2.2 j e j hj rfl))) hn'.2.1 hk
 refine ⟨.agg [.str x.name,iD x.purpose,dv,df],ob2,?_,?_,(v3.mono (fun j hj => List.mem_append_left _ hj)).trans (f3.mono (fun j hj => List.mem_append_right _ hj)),?_⟩
 ·refine Yhu ?_
  have hd : ∀ (x : D) (o : Objs),V.gvF (k + 1) o (.d x) = some (x,o) := fun x o => rfl
  simp only [gvL,hd,v1,f1,U1]
 ·exact D.le.agg (D.les.cons (D.le.refl _) (D.les.cons (D.le.refl _) (D.les.cons v2 (D.les.cons f2 D.les.nil))))
 ·rw [Yb]
  simp [D.shape,D.shapes,v4,f4]
end Go.Sx
namespace Go.Proofs.YtmapdjjigmkbfaaGreatDoor
open Go Go.Ab Go.Lx Go.Sx
set_option maxRecDepth 100000
section
variable {P : Prg} (hP : P.p = Tryz.prog)
include hP
theorem Ycc : Xj P.p 25 = true := by rw [hP]; kernel_rfl
theorem Xlj {t : RTab} (hy : t.src.small) (s : B) (hl : ∀ l,Wx s 0 = .ok l → l.length ≤ 10000) {ob : Objs} {K : V → Prop} (h : ∀ d,D.le d (Vn t.src s).1.enc → K (.tup [.d d,.d (.int .i64 (Vn t.src s).2.1),.d (.int .i64 (Vn t.src s).2.2)])) : PCall P 10 [.d t.enc,.d (.str s)] ob K := by
 refine Ux hP mixed (ds := [t.enc,.str s]) Yoe Yrl TOk.nil ?_
 have d0 := Ycc hP
 have hz := h Z4
 simp [Yl7]
 refine Yb3 hP s ?_
 by_cases hs : 65536 < s.length
 ·have hq : Vn t.src s = (Js,0,2) := by rw [Vn,if_pos hs]
  rw [hq] at h
  simp [Yaa,hs]
  exact h _ zero_le
 have hse : Vn t.src s = match Wx s 0 with
  | .err e => (Js,(e : Int),90)
  | .ok l => Xkg t.src s.length (Zd l) := by rw [Vn,if_neg hs]; all_goals rfl
 simp only [Yaa,gt_iff_lt,hs,if_false]
 cases hr : Wx s 0 with
 | err e =>
  rw [hr] at hse
  rw [hse] at h
  simp [Yfi]
  exact h _ zero_le
 | ok l =>
  rw [hr] at hse
  simp only at hse
  simp [Yfi,toks,d0]
  refine Xt2 hP (by simp [fresh]) ?_
  simp [X6e]
  have hll := hl l hr
  have hqr : Wy (l.length + 2) l = Zd l := Xao (by omega)
  refine Xrg hP (l.length + 2) (by omega) l (Nat.le_refl _) (p := 4) (m := 6) (c := 5) (en := s.length) (by simp; rfl) ⟨by simp,by simp,by simp,by simp⟩ ?_
  rw [hqr]
  rw [hse] at h
  cases hq : Zd l with
  | err r e =>
   rw [hq] at h
   simp only [Xkg] at h
   simp [PQ,RP,EP]
   refine Ycf hP (x := Z4) (n := 0) (m := 0) (by simp [Yi]) rfl (by simp) (by simp) ?_
   simp
   exact ⟨rfl,h _ zero_le⟩
  | ok x r =>
   rw [hq] at h
   simp only [Xkg] at h
   rw [← hqr] at hq
   obtain ⟨ro,rfl⟩ := Xkf hq (by omega) (by omega)
   simp only [PQ,RP]
   intro N vv fv a b hN hnd hin hV hF
   simp
   obtain ⟨L,hL⟩ : ∃ L : Objs,L = [(6,X1v 5),(5,Ob.box 87 (.ptr 4 [])),(4,pb [] s.length (.mp 6)),(3,Ob.box 45 (.d (.int .i64 0))),(2,Ob.box 3 (.d (.int .i64 0))),(1,Ob.box 44 (.d Z4)),(0,Ob.box 32 (.d t.enc))] := ⟨_,rfl⟩
   have hL' := hL
   simp only [Z4,Yi] at hL'
   rw [← hL']
   have hNk : ∀ j,j < 7 → j ∉ Xc N := fun j hj e => by
    have := hN.ge j e
    simp [fresh] at this
    omega
   obtain ⟨z,hz⟩ : ∃ z,z = fresh (N ++ L) := ⟨_,rfl⟩
   rw [← hz]
   have z7 : 7 ≤ z := by
    rw [hz,hL]
    refine Nat.le_trans ?_ (J5 _ _)
    simp [fresh]
   have lk : ∀ o j,j < 7 → lookO ((z,o) :: (N ++ L)) j = lookO L j := fun o j hj => by
    rw [Xq _ _ _ _ (by simp; omega),Yg (hNk j hj)]
   have lN : ∀ o j,j ∈ Xc N → lookO ((z,o) :: (N ++ L)) j = lookO N j := fun o j hj => by
    have : j < z := by rw [hz]; exact X2 (by rw [Wg]; exact List.mem_append_left _ hj)
    rw [Xq _ _ _ _ (by simp; omega),Vm hj]
   have vl : vv.shape = .leaf ∧ vv.sto = true := by rcases hV with ⟨_,rfl,_⟩ | ⟨_,id,rfl,_⟩ <;> exact ⟨rfl,rfl⟩
   have fl : fv.shape = Yi.shape ∧ fv.sto = true := by
    obtain ⟨kv,rfl,hk⟩ := Qr.1 hF
    exact ⟨by rw [Xu,hk.leaf.1]; rfl,by rw [X3q]; exact hk.leaf.2.1⟩
   refine ⟨by rw [Xcq,vl.1,fl.1]; rfl,⟨vl.2,fl.2⟩,?_⟩
   have k0 : ∀ o,lookO ((z,o) :: (N ++ L)) 0 = some (.box 32 (.d t.enc)) := fun o => by rw [lk o 0 (by omega),hL]; simp
   have k1 : ∀ o,lookO ((z,o) :: (N ++ L)) 1 = some (.box 44 (.d Z4)) := fun o => by rw [lk o 1 (by omega),hL]; simp
   have k2 : ∀ o,lookO ((z,o) :: (N ++ L)) 2 = some (.box 3 (.d (.int .i64 0))) := fun o => by rw [lk o 2 (by omega),hL]; simp
   have k3 : ∀ o,lookO ((z,o) :: (N ++ L)) 3 = some (.box 45 (.d (.int .i64 0))) := fun o => by rw [lk o 3 (by omega),hL]; simp
   simp [X6d,k0,RTab.enc]
   refine ⟨⟨rfl,rfl⟩,rfl,⟨by rw [Xcq,vl.1,fl.1]; rfl,X50⟩,?_⟩
   show ACall P 28 [rV t.src (.d .nils),qS x.1.name x.2 vv fv] _ _
   have idN : ∀ j ∈ a ++ b,7 ≤ j ∧ j < z := fun j hj => ⟨by have := hN.ge j (hin j hj); simp [fresh] at this; exact this,by rw [hz]; exact X2 (by rw [Wg]; exact List.mem_append_left _ (hin j hj))⟩
   obtain ⟨O1,hO1⟩ : ∃ O1,O1 = (z,Ob.box 93 (qS x.1.name x.2 vv fv)) :: (N ++ L) := ⟨_,rfl⟩
   have lN' : ∀ j ∈ a ++ b,lookO O1 j = lookO N j := fun j hj => by rw [hO1]; exact lN _ j (hin j hj)
   have c0 : lookO O1 0 = some (.box 32 (.d t.enc)) := by rw [hO1]; exact k0 _
   have c1 : lookO O1 1 = some (.box 44 (.d Z4)) := by rw [hO1]; exact k1 _
   have c2 : lookO O1 2 = some (.box 3 (.d (.int .i64 0))) := by rw [hO1]; exact k2 _
   have c3 : lookO O1 3 = some (.box 45 (.d (.int .i64 0))) := by rw [hO1]; exact k3 _
   rw [← hO1]
   have nlow : ∀ j,j < 7 → j ∉ a ++ b := fun j hj e => by have := (idN j e).1; omega
   refine X0i hP hy (q := x.1) (a := a) (b := b) ?_ (hF.look (fun j hj => lN' j (List.mem_append_right _ hj))) hnd ro.wk ro.small (Nat.le_trans ro.vars (by omega)) ?_ ?_
   ·rcases hV with h | ⟨hne,id,e1,e2,hl⟩
    ·exact .inl h
    ·exact .inr ⟨hne,id,e1,e2,by rw [lN' id (by simp [e2])]; exact hl⟩
   ·intro X hX ob' fv' hc hV' hF'
    simp only [Xwd,hX] at h
    have e0 : lookO ob' 0 = some (.box 32 (.d t.enc)) := by rw [hc.look 0 (nlow 0 (by omega))]; exact c0
    have e1 : lookO ob' 1 = some (.box 44 (.d Z4)) := by rw [hc.look 1 (nlow 1 (by omega))]; exact c1
    have e2 : lookO ob' 2 = some (.box 3 (.d (.int .i64 0))) := by rw [hc.look 2 (nlow 2 (by omega))]; exact c2
    have e3 : lookO ob' 3 = some (.box 45 (.d (.int .i64 0))) := by rw [hc.look 3 (nlow 3 (by omega))]; exact c3
    simp [e1]
    have hfs : fv'.shape = Yi.shape ∧ fv'.sto = true := by
     obtain ⟨kv,rfl,hk⟩ := Qr.1 hF'
     exact ⟨by rw [Xu,hk.leaf.1]; rfl,by rw [X3q]; exact hk.leaf.2.1⟩
    refine ⟨by rw [Yb,vl.1,hfs.1],rfl,⟨vl.2,hfs.2⟩,?_⟩
    obtain ⟨O2,hO2⟩ : ∃ O2,O2 = setO ob' 1 (.box 44 (qV X.name X.purpose vv fv')) := ⟨_,rfl⟩
    have s1 : ∀ j,lookO O2 j = if j = 1 then some (.box 44 (qV X.name X.purpose vv fv')) else lookO ob' j := fun j => by rw [hO2]; exact Xl ob' 1 j ⟨_,e1⟩
    have sab : ∀ j ∈ a ++ b,lookO O2 j = lookO ob' j := fun j hj => by rw [s1,if_neg (by have := (idN j hj).1; omega)]
    obtain ⟨xs1,xs2,xs3⟩ := Xqz ro hX
    have hV2 : Xrf O2 X.vars vv a := by
     rcases hV' with h | ⟨hne,id,q1,q2,hl⟩
     ·exact .inl h
     ·exact .inr ⟨hne,id,q1,q2,by rw [sab id (by simp [q2])]; exact hl⟩
    have hF2 : Zt O2 X.form fv' b := hF'.look (fun j hj => sab j (List.mem_append_right _ hj))
    obtain ⟨d,O3,g1,g2,g3,g4⟩ := Yrj (k := 39998) hV2 hF2 hnd (by omega)
    have g1' : V.gvF 40000 O2 (qV X.name X.purpose vv fv') = some (d,O3) := g1
    have w0 : lookO O2 0 = some (.box 32 (.d t.enc)) := by rw [s1,if_neg (by omega)]; exact e0
    have w1 : lookO O2 1 = some (.box 44 (qV X.name X.purpose vv fv')) := by rw [s1,if_pos rfl]
    have w2 : lookO O3 1 = some (.box 44 (qV X.name X.purpose vv fv')) := by rw [g3.look 1 (nlow 1 (by omega))]; exact w1
    rw [← hO2]
    have hqs : (qV X.name X.purpose vv fv').shape = Z4.shape := by rw [Yb,vl.1,hfs.1]; rfl
    have hds : d.shape = Z4.shape := by rw [g4,hqs]
    have e00 : lookO O3 2 = some (.box 3 (.d (.int .i64 0))) := by rw [g3.look 2 (nlow 2 (by omega)),s1,if_neg (by omega)]; exact e2
    have e01 : lookO O3 3 = some (.box 45 (.d (.int .i64 0))) := by rw [g3.look 3 (nlow 3 (by omega)),s1,if_neg (by omega)]; exact e3
    simp [X6c,w0,w1,g1',w2,hqs,hds]
    refine ⟨⟨rfl,rfl⟩,?_⟩
    have hat : atO O2 1 [] = some (qV X.name X.purpose vv fv') := by simp [atO,w1]
    simp only [I.wp]
    show X33 17 true O2 _ (.ptr 1 [])
    simp only [X33,hat,Xr5,g1',Xr4,w2,Xvt]
    refine ⟨by show (qV X.name X.purpose vv fv').shape.size = 17; rw [hqs]; rfl,Xx7,g4,.d d,by simp,?_⟩
    obtain ⟨O4,hO4⟩ : ∃ O4,O4 = setO O3 1 (.box 44 (.d d)) := ⟨_,rfl⟩
    rw [← hO4]
    have x1 : lookO O4 1 = some (.box 44 (.d d)) := by rw [hO4]; exact Xaj w2
    have x2 : lookO O4 2 = some (.box 3 (.d (.int .i64 0))) := by rw [hO4,Xl O3 1 2 ⟨_,w2⟩,if_neg (by omega)]; exact e00
    have x3 : lookO O4 3 = some (.box 45 (.d (.int .i64 0))) := by rw [hO4,Xl O3 1 3 ⟨_,w2⟩,if_neg (by omega)]; exact e01
    have hda : (V.d d).isAgg = true := by
     have := hds
     cases d <;> simp [D.shape,Z4] at this ⊢
    refine PCall.le (xs := [t.enc,d]) (ys := [t.enc,X.enc]) (D.les.cons (D.le.refl _) (D.les.cons g2 D.les.nil)) (Xc5 hP hy ⟨by omega,xs1⟩ ?_)
    by_cases hb : Yt t.src X = true
    ·simp only [hb,if_true] at h
     have hci : Wj t.src X = 0 := by simp [Wj,hb]
     rw [hci]
     simp [x1,x2,x3,hds]
     refine ⟨⟨rfl,hda⟩,rfl,?_⟩
     generalize hY : setO (setO (setO O4 1 _) 2 _) 3 _ = Y
     have y1 : lookO Y 1 = some (.box 44 (.d d)) := by rw [← hY]; simp [x1,x2,x3]
     have y2 : lookO Y 2 = some (.box 3 (.d (.int .i64 0))) := by rw [← hY]; simp [x1,x2,x3]
     have y3 : lookO Y 3 = some (.box 45 (.d (.int .i64 0))) := by rw [← hY]; simp [x1,x2,x3]
     refine Ylc hP ?_
     simp [y1,y2,y3,hds]
     exact ⟨rfl,hda,h d g2⟩
    ·simp only [hb,if_false] at h
     have hci : Wj t.src X = 210 := by simp [Wj,hb]
     rw [hci]
     simp [x1,x2,x3,hds]
     refine ⟨rfl,rfl,?_⟩
     generalize hY : setO (setO (setO O4 1 _) 2 _) 3 _ = Y
     have y1 : lookO Y 1 = some (.box 44 (.d Z4)) := by rw [← hY]; simp [x1,x2,x3,Yi]
     have y2 : lookO Y 2 = some (.box 3 (.d (.int .i64 0))) := by rw [← hY]; simp [x1,x2,x3]
     have y3 : lookO Y 3 = some (.box 45 (.d (.int .i64 210))) := by rw [← hY]; simp [x1,x2,x3]
     refine Ylc hP ?_
     simp [y1,y2,y3,hds]
     exact ⟨rfl,h _ zero_le⟩
   ·intro hX ob' hc
    simp only [Xwd,hX] at h
    simp
    refine Yri hP (x := Z4) (n := 0) (m := 0) (by rw [hc.look 1 (nlow 1 (by omega))]; exact c1) rfl (by rw [hc.look 2 (nlow 2 (by omega))]; exact c2) (by rw [hc.look 3 (nlow 3 (by omega))]; exact c3) ?_
    have e1 : lookO ob' 1 = some (.box 44 (.d Z4)) := by rw [hc.look 1 (nlow 1 (by omega))]; exact c1
    have e2 : lookO ob' 2 = some (.box 3 (.d (.int .i64 0))) := by rw [hc.look 2 (nlow 2 (by omega))]; exact c2
    have e3 : lookO ob' 3 = some (.box 45 (.d (.int .i64 0))) := by rw [hc.look 3 (nlow 3 (by omega))]; exact c3
    generalize hY : setO (setO (setO ob' 1 _) 2 _) 3 _ = Y
    have y1 : lookO Y 1 = some (.box 44 (.d Z4)) := by rw [← hY]; simp [e1,e2,e3]
    have y2 : lookO Y 2 = some (.box 3 (.d (.int .i64 0))) := by rw [← hY]; simp [e1,e2,e3]
    have y3 : lookO Y 3 = some (.box 45 (.d (.int .i64 210))) := by rw [← hY]; simp [e1,e2,e3]
    simp [y1,y2,y3]
    exact ⟨rfl,h _ zero_le⟩
end
end Go.Proofs.YtmapdjjigmkbfaaGreatDoor
/- Plain laws of the lexer: words, numbers, what is printed is read again. No program. -/
namespace Go.Lx
open Go Go.Ab
theorem Xuq {c : UInt8} (h : Ye c = true) : 48 ≤ c.toNat ∧ c.toNat ≤ 57 := by
 simp only [Ye,Jb,decide_eq_true_eq] at h; omega
theorem Xb0 : ∀ (s t : List UInt8) (m : Int),Q4 m (s ++ t) = (Q4 m s).bind fun k => Q4 k t
 | [],t,m => rfl
 | c :: r,t,m => by
  simp only [List.cons_append,Q4]
  split
  ·rfl
  ·exact Xb0 r t _
theorem Xxu : ∀ N : Nat,N ≤ 1099511627776 → Q4 0 (Lib.decDigits N) = some (N : Int) := by
 intro N
 induction N using Nat.strongRecOn with
 | ind N ih =>
  intro h
  have hd := Xge N
  rw [Yv,Xb0]
  by_cases h10 : N < 10
  ·rw [if_pos h10]
   simp only [Q4,Option.bind_some,hd]
   rw [if_neg (by omega)]
   congr 1; omega
  ·rw [if_neg h10,ih (N / 10) (by omega) (by omega)]
   simp only [Q4,Option.bind_some,hd]
   rw [if_neg (by omega)]
   congr 1; omega
theorem Xup : ∀ N : Nat,∀ c ∈ Lib.decDigits N,Ye c = true := by
 intro N
 induction N using Nat.strongRecOn with
 | ind N ih =>
  intro c hc
  rw [Yv] at hc
  rcases List.mem_append.1 hc with hc | hc
  ·split at hc
   ·cases hc
   ·exact ih (N / 10) (by omega) c hc
  ·rw [List.mem_singleton.1 hc]
   have := Xge N
   simp only [Ye,Jb,decide_eq_true_eq]; omega
theorem X00 : ∀ N : Nat,0 < N → (Lib.decDigits N).headD 0 ≠ 48 := by
 intro N
 induction N using Nat.strongRecOn with
 | ind N ih =>
  intro h
  rw [Yv]
  split
  ·simp
   intro e
   have := Xge N
   rw [e] at this
   have h48 : (48 : UInt8).toNat = 48 := rfl
   omega
  ·have := ih (N / 10) (by omega) (by omega)
   have hne := (Uf (N / 10)).2
   cases hx : Lib.decDigits (N / 10) with
   | nil => exact (hne hx).elim
   | cons c r => rw [hx] at this; simpa using this
theorem Xxv (N : Nat) (h : N ≤ 1099511627776) : Xdn (Lib.decDigits N) = some (N : Int) := by
 unfold Xdn
 rw [Xxu N h]
 simp only
 rw [if_pos]
 by_cases h0 : N = 0
 ·subst h0; left; rw [Yv]; rfl
 ·right; exact X00 N (by omega)
theorem X22 {c : UInt8} (h : signB c = true) : Uz c = false ∧ Zk c = false ∧ Ye c = false := by
 simp only [signB,signI,signs,List.any_cons,List.any_nil,Bool.or_false,Bool.or_eq_true,decide_eq_true_eq] at h
 simp only [Uz,Xd5,Zk,Z8,Ye,Jb,decide_eq_false_iff_not]
 have e : ∀ n : Nat,n < 256 → (UInt8.ofNat n).toNat = n := fun n hn => by simp [UInt8.toNat_ofNat']; omega
 refine ⟨?_,?_,?_⟩ <;> intro hx <;> (rcases h with h | h | h | h | h | h | h | h | h | h | h | h | h | h | h) <;> (simp at h; omega)
theorem Xrb {t : Tok} (h : validB t = true) : ∃ c r,Q8 t = c :: r ∧ stp c r = .tok t.kind t.text t.n r.length ∧ ¬ X8i c r := by
 obtain ⟨k,s,n,i⟩ := t
 unfold validB at h
 simp only at h
 split at h
 ·rename_i hk
  subst hk
  simp at h
  obtain ⟨h1,rfl⟩ := h
  obtain ⟨c,r,rfl,h2,h3,h4⟩ := Xxs.1 h1
  refine ⟨c,r,by simp [Q8],X28 h2 h3 h4,?_⟩
  rintro ⟨rfl,_⟩; revert h2; decide
 ·split at h
  ·rename_i hk
   subst hk
   simp at h
   obtain ⟨⟨rfl,h0⟩,h1⟩ := h
   obtain ⟨N,rfl⟩ := Int.eq_ofNat_of_zero_le h0
   have hN := Xxv N (by omega)
   have hD := Xup N
   simp only [Q8,if_true,Xp9]
   cases hx : Lib.decDigits N with
   | nil => exact ((Uf N).2 hx).elim
   | cons c r =>
    rw [hx] at hN hD
    have hc := hD c (by simp)
    have hb := Xuq hc
    have hnc : ¬ X8i c r := by rintro ⟨rfl,_⟩; revert hc; decide
    refine ⟨c,r,rfl,?_,hnc⟩
    have h2 : Uz c = false := by simp only [Uz,Xd5,decide_eq_false_iff_not]; omega
    have h3 : Zk c = false := by simp only [Zk,Z8,decide_eq_false_iff_not]; omega
    have hf : ¬ (c = 47 ∧ r.head? = some 47) := hnc
    have h4 : r.takeWhile Ye = r := Ut (fun x hx => hD x (by simp [hx]))
    unfold stp
    rw [h2,if_neg (by simp),if_neg hf,h3,if_neg (by simp),if_pos hc,h4,hN]
  ·split at h
   ·rename_i hk
    subst hk
    simp at h
    obtain ⟨⟨h1,h2⟩,rfl⟩ := h
    match s,h1 with
    | [c],_ =>
     simp at h2
     obtain ⟨s1,s2,s3⟩ := X22 h2
     refine ⟨c,[],by simp [Q8],?_,by rintro ⟨_,h⟩; simp at h⟩
     unfold stp
     simp [s1,s2,s3,h2]
   ·cases h
theorem Xfj : ∀ (l : List Tok) (off : Nat),(∀ t ∈ l,validB t = true) → ∃ m,Wx (Zs l) off = .ok m ∧ Xer l m = true
 | [],off,_ => ⟨[],by simp [Zs,Wo],rfl⟩
 | [t],off,h => by
  obtain ⟨c,r,e1,e2,_⟩ := Xrb (h t (by simp))
  refine ⟨[⟨t.kind,t.text,t.n,off⟩],?_,by simp [Xer,Xyi]⟩
  simp only [Zs]
  rw [e1,Vl e2]
  simp [Wo,Xsz]
 | t :: u :: l,off,h => by
  obtain ⟨c,r,e1,e2,e3⟩ := Xrb (h t (by simp))
  obtain ⟨m,m1,m2⟩ := Xfj (u :: l) (off + r.length + 1 + 1) (fun x hx => h x (by simp [hx]))
  refine ⟨⟨t.kind,t.text,t.n,off⟩ :: m,?_,?_⟩
  ·have hs : stp 32 (Zs (u :: l)) = .skip 0 := by simp [stp,Uz,Xd5]
   have hj : Zs (t :: u :: l) = Q8 t ++ 32 :: Zs (u :: l) := rfl
   rw [hj,e1,List.cons_append,Vl ((Yfx (.inr e3)).trans e2)]
   simp only [List.drop_left]
   rw [Va hs]
   simp only [List.drop_zero,Nat.add_zero]
   rw [m1]; rfl
  ·rw [Xer,m2]; simp [Xyi]
end Go.Lx
/- Plain laws for QuestionsWrong: a source cut at a token's place; printed tokens with more behind them. No program. -/
namespace Go.Sx
open Go Go.Ab Go.Lx
theorem Yac : ∀ s off,∀ l,Wx s off = .ok l → ∀ pre t post,l = pre ++ t :: post → ∃ m : Nat,t.at_ = ((off + m : Nat) : Int) ∧ m < s.length ∧ Wx (s.take m) off = .ok pre := by
 apply Xgp
 ·intro off l h pre t post e
  rw [Wo] at h
  cases h
  simp at e
 ·intro c r n off h hn ih l hl pre t post e
  rw [Va h] at hl
  obtain ⟨m,h1,h2,h3⟩ := ih l hl pre t post e
  simp at h2
  refine ⟨m + n + 1,by omega,by simp; omega,?_⟩
  rw [List.take_succ_cons,Va ((Xh9 (by omega) (.inl h)).trans h),List.drop_take]
  simpa using h3
 ·intro c r k tt mm n off h hn ih l hl pre t post e
  rw [Vl h] at hl
  cases hr : Wx (r.drop n) (off + n + 1) with
  | err e => rw [hr] at hl; cases hl
  | ok l' =>
   rw [hr] at hl
   simp only [Xsz,Res.ok.injEq] at hl
   subst hl
   cases pre with
   | nil =>
    simp only [List.nil_append,List.cons.injEq] at e
    refine ⟨0,by rw [← e.1]; simp,by simp,by rw [List.take_zero,Wo]⟩
   | cons x pre =>
    simp only [List.cons_append,List.cons.injEq] at e
    obtain ⟨m,h1,h2,h3⟩ := ih l' hr pre t post e.2
    simp at h2
    refine ⟨m + n + 1,by omega,by simp; omega,?_⟩
    rw [List.take_succ_cons,Vl ((Xh9 (by omega) (.inr ⟨_,_,_,h⟩)).trans h),List.drop_take]
    simp only [Nat.add_sub_cancel,h3,Xsz,e.1]
 ·intro c r off h l hl; rw [Xag h] at hl; cases hl
theorem Xvz : ∀ s off,∀ l,Wx s off = .ok l → l.length ≤ s.length := by
 apply Xgp
 ·intro off l h; rw [Wo] at h; cases h; simp
 ·intro c r n off h hn ih l hl
  rw [Va h] at hl
  have := ih l hl
  simp at this ⊢; omega
 ·intro c r k t m n off h hn ih l hl
  rw [Vl h] at hl
  cases hr : Wx (r.drop n) (off + n + 1) with
  | err e => rw [hr] at hl; cases hl
  | ok l' =>
   rw [hr] at hl
   simp only [Xsz,Res.ok.injEq] at hl
   subst hl
   have := ih l' hr
   simp at this ⊢; omega
 ·intro c r off h l hl; rw [Xag h] at hl; cases hl
theorem Yb1 : ∀ s off,∀ l,Wx s off = .ok l → ∀ t ∈ l,t.at_ < off + s.length := by
 apply Xgp
 ·intro off l h t ht; rw [Wo] at h; cases h; cases ht
 ·intro c r n off h hn ih l hl t ht
  rw [Va h] at hl
  have := ih l hl t ht
  simp at this ⊢; omega
 ·intro c r k t m n off h hn ih l hl u hu
  rw [Vl h] at hl
  cases hr : Wx (r.drop n) (off + n + 1) with
  | err e => rw [hr] at hl; cases hl
  | ok l' =>
   rw [hr] at hl
   simp only [Xsz,Res.ok.injEq] at hl
   subst hl
   rcases List.mem_cons.1 hu with rfl | hu
   ·simp; omega
   ·have := ih l' hr u hu
    simp at this ⊢; omega
 ·intro c r off h l hl; rw [Xag h] at hl; cases hl
def zT (t : Tok) : Tok := ⟨t.kind,t.text,t.n,0⟩
theorem Yf6 : Mv zT := fun t => ⟨rfl,rfl,rfl⟩
theorem Xx9 {l l' : List Tok} {x : RQ × B} {r : List Tok} (hz : l'.map zT = l.map zT) (h : Zd l = .ok x r) : ∃ r',Zd l' = .ok x r' := by
 have h1 := Xke Yf6 l
 have h2 := Xke Yf6 l'
 rw [hz,h1,h] at h2
 cases hq : Zd l' with
 | ok a x =>
  rw [hq] at h2
  simp only [R.map,R.ok.injEq] at h2
  exact ⟨_,by rw [h2.1]⟩
 | err r' x => rw [hq] at h2; cases h2
theorem X3c {s : B} {l r : List Tok} {e : Int} (hl : Wx s 0 = .ok l) (h : Zd l = .err r e) :
  (r = [] ∧ ∀ u ∈ l,u.at_ < s.length) ∨ ∃ pre t post m,r = t :: post ∧ l = pre ++ t :: post ∧ t.at_ = (m : Nat) ∧ m < s.length ∧ (∀ u ∈ pre,u.at_ < m) ∧ Wx (s.take m) 0 = .ok pre ∧ (Zd pre).End := by
 cases r with
 | nil => exact .inl ⟨rfl,fun u hu => by have := Yb1 _ _ _ hl u hu; simpa using this⟩
 | cons t post =>
  have := Xov l
  rw [h] at this
  obtain ⟨pre,rfl⟩ := this
  simp only [R.rest] at h hl
  obtain ⟨m,h1,h2,h3⟩ := Yac _ _ _ hl pre t post rfl
  refine .inr ⟨pre,t,post,m,rfl,rfl,by omega,h2,fun u hu => ?_,h3,Xx8 h⟩
  have := Yb1 _ _ _ h3 u hu
  simp at this
  omega
end Go.Sx
/- Contracts: the printer's put and formula. Condition: the program is the seat's. -/
namespace Go.Proofs.YtmapdjjigmkbfaaGreatDoor
open Go Go.Ab Go.Lx Go.Sx
set_option maxRecDepth 100000
set_option maxHeartbeats 4000000
def Xt0 (P : Prg) (vs : List RVar) (r : Nat) : Prop := ∀ (Xg : List Part),(∀ x ∈ Xg,x.rank ≤ r) → ∀ (ob : Objs) (p q : Nat) (ts : List Tok),Pr vs ob p q ts → Xg.length ≤ 1000 → (∀ x ∈ Xg,x.few vs) → (ts ++ Xh vs Xg).length ≤ 1000000000 → ∀ K : Out → Objs → Prop,K (.ret (.tup [])) (prO vs ob p q (ts ++ Xh vs Xg)) → ACall P 38 [.ptr p [],.d (.list 1 (Xg.map Part.enc))] ob K
def Xex (P : Prg) (vs : List RVar) (r : Nat) : Prop := ∀ (f : RForm),3 * SizeOf.sizeOf f + 2 ≤ r → f.few vs → ∀ (ob : Objs) (p q : Nat) (ts : List Tok),Pr vs ob p q ts → (ts ++ Zi vs f).length ≤ 1000000000 → ∀ K : Out → Objs → Prop,K (.ret (.tup [])) (prO vs ob p q (ts ++ Zi vs f)) → ACall P 91 [.ptr p [],.d f.enc] ob K
section
variable {P : Prg} (hP : P.p = Tryz.prog)
include hP
theorem X2y (vs : List RVar) (r : Nat) (ih : ∀ r',r' < r → Xt0 P vs r') (hf2 : Xex P vs r) : Xt0 P vs r := by
 intro Xg hr ob p q ts hp hn hnm hl K h
 refine acall_lift hP mixed Yol Yrz TOk.nil fun _ hm => ?_
 simp [Yqj]
 refine ALoop.upto Xg.length (fun k => [(0,.ptr p []),(15,.d (.list 1 (Xg.map Part.enc))),(16,.d (.int .i64 Xg.length)),(17,.d (.int .i64 k))])
  (fun k => prO vs ob p q (ts ++ Xh vs (Xg.take k))) (fun _ => True) trivial (by simp) (by simp [Xh,hp.self]) ?_ ?_
 ·intro k hk _ R rn re rr rp
  have hp' := hp.look (ts' := ts ++ Xh vs (Xg.take k))
  have hx0 : Xg[k].rank ≤ r := hr _ (List.getElem_mem hk)
  have hfx : Xg[k].few vs := hnm _ (List.getElem_mem hk)
  have hpt := Xoq vs hk
  have hlen : (ts ++ Xh vs (Xg.take k)).length + (Xg[k].toks vs).length ≤ 1000000000 := by
   have h1 : (Xh vs (Xg.take (k + 1))).length ≤ (Xh vs Xg).length := Xxz _ _ _
   rw [hpt,List.length_append] at h1
   rw [List.length_append] at hl ⊢; omega
  generalize hts : ts ++ Xh vs (Xg.take k) = tk at *
  have e : (p == q) = false := by simp [hp.ne]
  have e' : (q == p) = false := by simpa using Ne.symm hp.ne
  have hi : IntKind.i64.wrap ((k : Int) + 1) = (k : Int) + 1 := IntWalk.i64_in _ (by omega)
  generalize hob : prO vs ob p q tk = obk at *
  have lq : lookO obk q = _ := hp'.q
  have lp : lookO obk p = _ := hp'.p
  have hfr : fresh obk = fresh ob := by rw [← hob]; exact Uk
  have fin : ∀ sl',Xe sl' [0,15,16,17] = [(0,.ptr p []),(15,.d (.list 1 (Xg.map Part.enc))),(16,.d (.int .i64 Xg.length)),(17,.d (.int .i64 (k + 1 : Nat)))] → ∀ o2,Xy (young (fresh obk) []) o2 = prO vs obk p q (tk ++ Xg[k].toks vs) → R .normal sl' o2 := by
   intro sl' hs o2 ho
   have e1 : prO vs obk p q (tk ++ Xg[k].toks vs) = prO vs ob p q (ts ++ Xh vs (Xg.take (k + 1))) := by
    rw [← hob,Pr.step hp.ne,hpt,← List.append_assoc,hts]
   refine rn [] sl' o2 trivial hs (ho.trans e1) ?_ ?_
   ·have := Xt hp.p
    simp [young,hfr]; omega
   ·rw [hfr]; exact Xco hp hm []
  have one : ∀ (x : Part),Xg[k] = x → ∀ sl',Xe sl' [0,15,16,17] = [(0,.ptr p []),(15,.d (.list 1 (Xg.map Part.enc))),(16,.d (.int .i64 Xg.length)),(17,.d (.int .i64 (k + 1 : Nat)))] → R .normal sl' (prO vs obk p q (tk ++ x.toks vs)) := by
   intro x hx sl' hs
   refine fin sl' hs _ ?_
   rw [hx]
   simp [lp,lq,e,e']
  have two : ∀ (x : Part),Xg[k] = x → ∀ sl',Xe sl' [0,15,16,17] = [(0,.ptr p []),(15,.d (.list 1 (Xg.map Part.enc))),(16,.d (.int .i64 Xg.length)),(17,.d (.int .i64 (k + 1 : Nat)))] → ∀ o : Ob,R .normal sl' ((fresh obk,o) :: prO vs obk p q (tk ++ x.toks vs)) := by
   intro x hx sl' hs o
   refine fin sl' hs _ ?_
   rw [hx]
   simp [lp,lq,e,e']
  have hmk : ∀ kp,noMenO (young (fresh obk) kp) obk = true := by rw [hfr,← hob]; exact Xco hp hm
  have hl1 := hlen
  cases hx : Xg[k] with
  | word s =>
   rw [hx] at hl1; simp [Part.toks] at hl1
   simp [U9,Jg,hk,hx,Part.enc,lp,lq,e,e',hi]
   refine ⟨by omega,?_⟩
   simpa [prO,Part.toks,nmT,Tok.enc] using one _ hx [(0,.ptr p []),(15,.d (.list 1 (Xg.map Part.enc))),(16,.d (.int .i64 Xg.length)),(17,.d (.int .i64 (k + 1 : Nat)))] (by simp)
  | name s =>
   rw [hx] at hl1; simp [Part.toks] at hl1
   simp [U9,Jg,hk,hx,Part.enc,lp,lq,e,e',hi]
   refine ⟨by omega,?_⟩
   simpa [prO,Part.toks,nmT,Tok.enc] using one _ hx [(0,.ptr p []),(15,.d (.list 1 (Xg.map Part.enc))),(16,.d (.int .i64 Xg.length)),(17,.d (.int .i64 (k + 1 : Nat)))] (by simp)
  | sign s =>
   rw [hx] at hl1; simp [Part.toks] at hl1
   simp [U9,Jg,hk,hx,Part.enc,lp,lq,e,e',hi]
   refine ⟨by omega,?_⟩
   simpa [prO,Part.toks,sgT,Tok.enc] using one _ hx [(0,.ptr p []),(15,.d (.list 1 (Xg.map Part.enc))),(16,.d (.int .i64 Xg.length)),(17,.d (.int .i64 (k + 1 : Nat)))] (by simp)
  | num n =>
   rw [hx] at hl1; simp [Part.toks] at hl1
   simp [U9,Jg,hk,hx,Part.enc,lp,lq,e,e',hi]
   refine ⟨by omega,?_⟩
   simpa [prO,Part.toks,nuT,Tok.enc] using one _ hx [(0,.ptr p []),(15,.d (.list 1 (Xg.map Part.enc))),(16,.d (.int .i64 Xg.length)),(17,.d (.int .i64 (k + 1 : Nat)))] (by simp)
  | term t =>
   rw [hx] at hx0; simp only [Part.rank] at hx0
   have p0 := ih 0 (by omega)
   rw [hx] at hl1; simp only [Part.toks] at hl1
   simp [U9,Jg,hk,hx,Part.enc,lp,lq,e,e',hi,RTerm.enc]
   refine ⟨fun hn => ?_,fun hn => ?_⟩
   ·simp only [Y0,hn,if_true] at hl1
    refine p0 [.num t.n] (by simp [Part.rank]) _ p q tk (hp'.cons _) (by simp) (by simp [Part.few]) (by simpa [Xh,Part.toks] using hl1) _ ?_
    rw [hp'.cons_pr]
    simp [hi]
    simpa [Xh,Part.toks,Y0,hn,RTerm.enc] using two _ hx [(0,.ptr p []),(15,.d (.list 1 (Xg.map Part.enc))),(16,.d (.int .i64 Xg.length)),(17,.d (.int .i64 (k + 1 : Nat)))] (by simp) (.box 38 (.d t.enc))
   ·simp only [Y0,hn,if_false] at hl1
    refine p0 [.name t.name,.sign [46],.name t.path] (by simp [Part.rank]) _ p q tk (hp'.cons _) (by simp) (by simp [Part.few]) (by simpa [Xh,Part.toks] using hl1) _ ?_
    rw [hp'.cons_pr]
    simp [hi]
    simpa [Xh,Part.toks,Y0,hn,RTerm.enc] using two _ hx [(0,.ptr p []),(15,.d (.list 1 (Xg.map Part.enc))),(16,.d (.int .i64 Xg.length)),(17,.d (.int .i64 (k + 1 : Nat)))] (by simp) (.box 38 (.d t.enc))
  | form f =>
   rw [hx] at hx0 hfx; simp only [Part.rank] at hx0
   simp only [Part.few] at hfx
   rw [hx] at hl1; simp only [Part.toks] at hl1
   have hagg : (match V.d f.enc with | V.d (D.agg xs) => true | V.agg xs => true | x => false) = true := by rw [RForm.enc_eq]
   simp [U9,Jg,hk,hx,Part.enc,lp,lq,e,e',hi]
   refine ⟨hagg,?_⟩
   refine hf2 f hx0 hfx _ p q tk (hp'.cons _) (by simpa using hl1) _ ?_
   rw [hp'.cons_pr]
   simp
   simpa [Part.toks] using two _ hx [(0,.ptr p []),(15,.d (.list 1 (Xg.map Part.enc))),(16,.d (.int .i64 Xg.length)),(17,.d (.int .i64 (k + 1 : Nat)))] (by simp) (.box 42 (.d f.enc))
  | kids l =>
   rw [hx] at hx0 hfx; simp only [Part.rank] at hx0
   simp only [Part.few] at hfx
   rw [hx] at hl1; simp only [Part.toks,Xr1] at hl1
   have p0 := ih 0 (by omega)
   simp [U9,hk,hx,Part.enc,lp,lq,e,e',hi]
   refine p0 [.sign [123]] (by simp [Part.rank]) _ p q tk hp' (by simp) (by simp [Part.few]) (by simp [Xh,Part.toks] at hl1 ⊢; omega) _ ?_
   simp [Xh,Part.toks]
   simp [X6w]
   have hl2 : (tk ++ [sgT [123]] ++ Yw vs l).length + 1 ≤ 1000000000 := by simp only [List.length_append,List.length_cons,List.length_nil] at hl1 ⊢; omega
   refine ALoop.upto l.length (fun j => [(0,.ptr p []),(15,.d (.list 1 (Xg.map Part.enc))),(16,.d (.int .i64 Xg.length)),(17,.d (.int .i64 k)),(107,.d (.list 14 (l.map RForm.enc))),(108,.d (.int .i64 l.length)),(109,.d (.int .i64 j))])
    (fun j => prO vs obk p q (tk ++ [sgT [123]] ++ Yw vs (l.take j))) (fun _ => True) trivial (by simp) (by simp [Yw]) ?_ ?_
   ·intro j hj _ R' rn' re' rr' rp'
    have hlt := Xt hp'.p
    have hlt2 := Xt hp'.q
    have hwj : IntKind.i64.wrap ((j : Int) + 1) = (j : Int) + 1 := IntWalk.i64_in _ (by omega)
    have hmem : l[j] ∈ l := List.getElem_mem hj
    have hsz : SizeOf.sizeOf l[j] < SizeOf.sizeOf l := List.sizeOf_lt_of_mem hmem
    have hagg : (match V.d l[j].enc with | V.d (D.agg xs) => true | V.agg xs => true | x => false) = true := by rw [RForm.enc_eq]
    have hkt := Xr2 vs hj
    have hle := X2f vs l (j + 1)
    simp [Xti,hj]
    refine ⟨hagg,?_⟩
    refine ih (3 * SizeOf.sizeOf l[j] + 2) (by omega) [.form l[j],.sign [59]] (by simp [Part.rank]) _ p q _ (hp'.top1 _ (tk ++ (sgT [123] :: Yw vs (l.take j)))) (by simp) (by simp [Part.few]; exact hfx.2 _ hmem) ?_ _ ?_
    ·rw [hkt] at hle
     simp only [Xh,Part.toks,List.flatMap_cons,List.flatMap_nil,List.append_nil,List.length_append,List.length_cons,List.length_nil] at hle hl2 ⊢
     omega
    ·rw [hp'.top]
     simp [X6v,hwj]
     refine rn' [] _ _ trivial (by simp) ?_ ?_ ?_
     ·rw [hkt]; simp [young,lp,lq,e,e',Xh,Part.toks]
     ·simp [young,Uk]; omega
     ·rw [Uk]; exact X2r hp' hmk _ (by omega) []
   ·intro _ R' re' rr' rp'
    simp [Xti]
    refine re' _ _ _ ?_
    simp
    refine p0 [.sign [125]] (by simp [Part.rank]) _ p q _ (hp'.look (ts' := tk ++ (sgT [123] :: Yw vs l))) (by simp) (by simp [Part.few]) ?_ _ ?_
    ·simp [Xh,Part.toks] at hl2 ⊢; omega
    ·rw [Pr.step hp.ne]
     simp [Jg,hi]
     simpa [Part.toks,Xh,Xr1] using one _ hx [(0,.ptr p []),(15,.d (.list 1 (Xg.map Part.enc))),(16,.d (.int .i64 Xg.length)),(17,.d (.int .i64 (k + 1 : Nat)))] (by simp)
 ·intro _ R re rr rp
  simp [U9]
  refine re _ _ _ ?_
  simp
  exact Xvx hp hm h (by simp) (by simp [hp.p,hp.q,hp.ne])
end
end Go.Proofs.YtmapdjjigmkbfaaGreatDoor
/- Contracts: the printer's formula; put at any Xg. Condition: the program is the seat's. -/
namespace Go.Proofs.YtmapdjjigmkbfaaGreatDoor
open Go Go.Ab Go.Lx Go.Sx
set_option maxRecDepth 100000
set_option maxHeartbeats 4000000
section
variable {P : Prg} (hP : P.p = Tryz.prog)
include hP
theorem X8x (vs : List RVar) (r : Nat) (ih : ∀ r',r' < r → Xt0 P vs r') : Xex P vs r := by
 intro f hr hf ob p q ts hp hl K h
 refine acall_lift hP mixed Ypb Ysq TOk.nil fun _ hm => ?_
 have e : (p == q) = false := by simp [hp.ne]
 have e' : (q == p) = false := by simpa using Ne.symm hp.ne
 have lp := hp.p
 have lq := hp.q
 obtain ⟨hfk,hfh,hfm⟩ := RForm.few_eq hf
 have hsk : SizeOf.sizeOf f.kids < SizeOf.sizeOf f := by cases f; simp only [RForm.kids,RForm.mk.sizeOf_spec]; omega
 have pk := ih (3 * SizeOf.sizeOf f.kids + 1) (by omega)
 have p1 := ih 1 (by omega)
 have fin : ∀ {ts' : List Tok} {ob2 : Objs},ts' = ts ++ Zi vs f → Xy (young (fresh ob) []) ob2 = prO vs ob p q ts' → Xx (fresh ob) (K (.ret (.tup []))) [] ob2 := fun e1 hd => by
  subst e1
  exact Xvx hp hm h (by simp) hd
 have hT := X1u vs f
 by_cases o1 : f.op = 1
 ·rw [if_pos o1] at hT
  rw [hT] at hl
  simp [Ya4,RForm.enc_eq f,o1]
  refine pk [.word [97,108,108],.kids f.kids] (by simp [Part.rank]) _ p q ts (hp.cons _) (by simp) (by simp [Part.few,hfk]; exact hfm) (by simpa [Xh,Part.toks] using hl) _ ?_
  rw [hp.cons_pr]
  simp
  refine fin (ts' := ts ++ Xh vs [.word [97,108,108],.kids f.kids]) (by rw [hT]; simp [Xh,Part.toks]) ?_
  simp [young,lp,lq,e,e']
 by_cases o2 : f.op = 2
 ·rw [if_neg o1] at hT; rw [if_pos o2] at hT
  rw [hT] at hl
  simp [Ya4,RForm.enc_eq f,o2]
  refine pk [.word [97,110,121],.kids f.kids] (by simp [Part.rank]) _ p q ts (hp.cons _) (by simp) (by simp [Part.few,hfk]; exact hfm) (by simpa [Xh,Part.toks] using hl) _ ?_
  rw [hp.cons_pr]
  simp
  refine fin (ts' := ts ++ Xh vs [.word [97,110,121],.kids f.kids]) (by rw [hT]; simp [Xh,Part.toks]) ?_
  simp [young,lp,lq,e,e']
 by_cases o3 : f.op = 3
 ·rw [if_neg o1] at hT; rw [if_neg o2] at hT; rw [if_pos o3] at hT
  rw [hT] at hl
  simp [Ya4,RForm.enc_eq f,o3]
  refine pk [.word [108,101,97,115,116],.num f.n,.kids f.kids] (by simp [Part.rank]) _ p q ts (hp.cons _) (by simp) (by simp [Part.few,hfk]; exact hfm) (by simpa [Xh,Part.toks] using hl) _ ?_
  rw [hp.cons_pr]
  simp
  refine fin (ts' := ts ++ Xh vs [.word [108,101,97,115,116],.num f.n,.kids f.kids]) (by rw [hT]; simp [Xh,Part.toks]) ?_
  simp [young,lp,lq,e,e']
 by_cases o4 : f.op = 4
 ·rw [if_neg o1,if_neg o2,if_neg o3,if_pos o4] at hT
  rw [hT] at hl
  obtain ⟨n0,n1⟩ := hfh o4
  obtain ⟨n,hn⟩ : ∃ n : Nat,f.n = n := ⟨f.n.toNat,by omega⟩
  have hnl : n < vs.length := by omega
  have hvn : Ya0 vs f.n = vs[n].name := by simp [Ya0,hn,hnl]
  simp [Ya4,RForm.enc_eq f,o4,hn,hnl,RVar.enc,lp,e,e',hp.cons]
  refine pk [.word [104,97,115],.name vs[n].name] (by simp [Part.rank]) _ p q ts (hp.cons _) (by simp) (by simp [Part.few]) (by rw [hvn] at hl; simpa [Xh,Part.toks] using hl) _ ?_
  rw [hp.cons_pr]
  simp
  refine fin (ts' := ts ++ Xh vs [.word [104,97,115],.name vs[n].name]) (by rw [hT,hvn]; simp [Xh,Part.toks]) ?_
  simp [young,lp,lq,e,e']
 by_cases o5 : f.op = 5
 ·rw [if_neg o1,if_neg o2,if_neg o3,if_neg o4,if_pos o5] at hT
  rw [hT] at hl
  have ha : f.atom.enc = .agg [iD f.atom.op,f.atom.a.enc,f.atom.b.enc] := rfl
  have last : ∀ (o : Int) (t1 : List Tok),ts ++ Zi vs f = t1 ++ Y0 f.atom.b → Zc P [] Xhy (V2 (fresh ob) [] K) [(0,.ptr p []),(3,.ptr (fresh ob) [])] ((fresh ob,.box 42 (.d (.agg [iD 5,iD f.n,.list 14 (f.kids.map RForm.enc),.agg [iD o,f.atom.a.enc,f.atom.b.enc]]))) :: prO vs ob p q t1) := by
   intro o t1 ht
   rw [hT] at ht
   have hlb : (t1 ++ Y0 f.atom.b).length ≤ 1000000000 := by rw [← ht,List.length_append]; simpa using hl
   simp [X7n]
   refine ⟨rfl,?_⟩
   refine p1 [.term f.atom.b] (by simp [Part.rank]) _ p q _ (hp.top1 _ t1) (by simp) (by simp [Part.few]) (by simpa [Xh,Part.toks] using hlb) _ ?_
   rw [hp.top]
   simp
   refine fin (ts' := t1 ++ Xh vs [.term f.atom.b]) (by rw [hT,ht]; simp [Xh,Part.toks]) ?_
   simp [young,lp,lq,e,e']
  simp [Ya4,RForm.enc_eq f,o5,ha]
  refine ⟨rfl,?_⟩
  refine p1 [.term f.atom.a] (by simp [Part.rank]) _ p q ts (hp.cons _) (by simp) (by simp [Part.few]) (by simp only [Xh,Part.toks,List.flatMap_cons,List.flatMap_nil,List.append_nil,List.length_append] at hl ⊢; omega) _ ?_
  rw [hp.cons_pr]
  simp only [Xh,Part.toks,List.flatMap_cons,List.flatMap_nil,List.append_nil]
  simp
  by_cases a1 : f.atom.op = 1
  ·have hO : opT f.atom.op = Xh vs [.sign [61]] := by simp [opT,a1,Xh,Part.toks]
   rw [hO] at hT hl
   simp [Xcv,a1]
   refine p1 [.sign [61]] (by simp [Part.rank]) _ p q _ (hp.top1 _ _) (by simp) (by simp [Part.few]) (by simp only [List.length_append] at hl ⊢; omega) _ ?_
   rw [hp.top]
   simp
   exact last 1 (ts ++ (Y0 f.atom.a ++ Xh vs [.sign [61]])) (by rw [hT]; simp only [List.append_assoc])
  by_cases a2 : f.atom.op = 2
  ·have hO : opT f.atom.op = Xh vs [.sign [60]] := by simp [opT,a2,Xh,Part.toks]
   rw [hO] at hT hl
   simp [Xcv,a2]
   refine p1 [.sign [60]] (by simp [Part.rank]) _ p q _ (hp.top1 _ _) (by simp) (by simp [Part.few]) (by simp only [List.length_append] at hl ⊢; omega) _ ?_
   rw [hp.top]
   simp
   exact last 2 (ts ++ (Y0 f.atom.a ++ Xh vs [.sign [60]])) (by rw [hT]; simp only [List.append_assoc])
  by_cases a3 : f.atom.op = 3
  ·have hO : opT f.atom.op = Xh vs [.sign [60],.sign [61]] := by simp [opT,a3,Xh,Part.toks]
   rw [hO] at hT hl
   simp [Xcv,a3]
   refine p1 [.sign [60],.sign [61]] (by simp [Part.rank]) _ p q _ (hp.top1 _ _) (by simp) (by simp [Part.few]) (by simp only [List.length_append] at hl ⊢; omega) _ ?_
   rw [hp.top]
   simp
   exact last 3 (ts ++ (Y0 f.atom.a ++ Xh vs [.sign [60],.sign [61]])) (by rw [hT]; simp only [List.append_assoc])
  by_cases a4 : f.atom.op = 4
  ·have hO : opT f.atom.op = Xh vs [.sign [33],.sign [61]] := by simp [opT,a4,Xh,Part.toks]
   rw [hO] at hT hl
   simp [Xcv,a4]
   refine p1 [.sign [33],.sign [61]] (by simp [Part.rank]) _ p q _ (hp.top1 _ _) (by simp) (by simp [Part.few]) (by simp only [List.length_append] at hl ⊢; omega) _ ?_
   rw [hp.top]
   simp
   exact last 4 (ts ++ (Y0 f.atom.a ++ Xh vs [.sign [33],.sign [61]])) (by rw [hT]; simp only [List.append_assoc])
  have hO : opT f.atom.op = [] := by simp [opT,a1,a2,a3,a4]
  rw [hO] at hT hl
  simp [Xcv,a1,a2,a3,a4]
  exact last _ _ (by rw [hT]; simp)
 ·rw [if_neg o1,if_neg o2,if_neg o3,if_neg o4,if_neg o5] at hT
  simp [Ya4,RForm.enc_eq f,o1,o2,o3,o4,o5]
  have e0 : prO vs ob p q ts = ob := hp.self
  refine fin (ts' := ts) (by rw [hT]; simp) ?_
  rw [e0]
  simp [young]

theorem Yao (vs : List RVar) (r : Nat) : Xt0 P vs r := by
 induction r using Nat.strongRecOn with
 | ind r ih => exact X2y hP vs r ih (X8x hP vs r ih)
end
end Go.Proofs.YtmapdjjigmkbfaaGreatDoor
/- A valid question is what its source says; printing is one to one. No program. -/
namespace Go.Sx
open Go Go.Ab Go.Lx
theorem Xh0 {s : B} (h : nameB s = true) : s ≠ [] := by
 rintro rfl
 simp [nameB] at h
theorem Xfz {y : RSrc} {vs : List RVar} {t : RTerm} (h : (refO y vs t).isSome = true ∨ t.isNum = true) :
  (t = ⟨[],[],-1,0,t.n⟩ ∧ 0 ≤ t.n ∧ t.n ≤ 1048576) ∨ (nameB t.name = true ∧ nameB t.path = true ∧ t.n = 0 ∧ Xow y vs ⟨t.name,t.path,0,0,0⟩ = some t) := by
 rcases h with h | h
 ·right
  obtain ⟨r,hr⟩ := Option.isSome_iff_exists.1 h
  unfold refO at hr
  split at hr
  ·rename_i h0
   simp only [Bool.and_eq_true,decide_eq_true_eq] at h0
   refine ⟨h0.1.1,h0.1.2,h0.2,?_⟩
   have hn : t.name ≠ [] := Xh0 h0.1.1
   simp only [Xow,hn,if_false]
   split at hr
   ·rename_i v hv
    rw [hv]
    split at hr
    ·cases hr
    ·rename_i h1
     split at hr
     ·rename_i c hc
      split at hr
      ·cases hr
      ·rename_i h2
       have hfo : fieldsOf y v = c.fields := by simp [fieldsOf,hc]
       simp only [hfo]
       rw [if_neg (by omega)]
       obtain ⟨n,p,var,fld,m⟩ := t
       simp only at h1 h2 h0 ⊢
       congr 2
       ·omega
       ·omega
       ·exact h0.2.symm
     ·cases hr
   ·cases hr
  ·cases hr
 ·left
  simp only [RTerm.isNum,Bool.and_eq_true,decide_eq_true_eq] at h
  obtain ⟨n,p,var,fld,m⟩ := t
  simp only at h ⊢
  obtain ⟨⟨⟨⟨⟨rfl,rfl⟩,rfl⟩,rfl⟩,h1⟩,h2⟩ := h
  exact ⟨rfl,h1,h2⟩
theorem Xkv {y : RSrc} {vs : List RVar} {t : RTerm} (h : (refO y vs t).isSome = true ∨ t.isNum = true) : Xow y vs (Je t) = some t := by
 rcases Xfz h with ⟨e,_⟩ | ⟨h1,_,h3,h4⟩
 ·rw [e]; simp [Je,Xow]
 ·simp [Je,Xh0 h1,h4]
theorem Xd7 {y : RSrc} {vs : List RVar} {t : RTerm} (h : (refO y vs t).isSome = true ∨ t.isNum = true) : ∀ x ∈ Y0 t,validB x = true := by
 rcases Xfz h with ⟨e,h1,h2⟩ | ⟨h1,h2,_⟩
 ·rw [e]
  have h3 : t.n ≤ 1099511627776 := by omega
  simp [Y0,validB,nuT,h1,h3]
 ·have hd : signB 46 = true := by decide
  simp [Y0,Xh0 h1,validB,nmT,sgT,h1,h2,hd]
theorem Xlh {y : RSrc} {vs : List RVar} {a : RAtom} (h : Vz y vs a = true) : 1 ≤ a.op ∧ a.op ≤ 4 ∧ ((refO y vs a.a).isSome = true ∨ a.a.isNum = true) ∧ ((refO y vs a.b).isSome = true ∨ a.b.isNum = true) := by
 simp only [Vz,Bool.and_eq_true,Bool.or_eq_true,decide_eq_true_eq] at h
 obtain ⟨⟨⟨⟨⟨⟨o1,o2⟩,tA⟩,tB⟩,_⟩,_⟩,_⟩ := h
 exact ⟨o1,o2,tA,tB⟩
theorem Xrr {y : RSrc} {vs : List RVar} (hv : Ua y vs = true) {i : Nat} (hi : i < vs.length) : Xi RVar.name vs vs[i].name 0 = i ∧ nameB vs[i].name = true := by
 have := Xav hv i hi
 simp only [Xk6,Bool.and_eq_true,decide_eq_true_eq] at this
 exact ⟨this.2,this.1.2⟩
structure FormOk (y : RSrc) (vs : List RVar) (f : RForm) : Prop where
 pr : f.pr vs
 toks : ∀ x ∈ Zi vs f,validB x = true
 res : Xb3 y vs (f.strip vs) = some f
structure FormsOk (y : RSrc) (vs : List RVar) (l : List RForm) : Prop where
 pr : RForm.prL vs l
 toks : ∀ x ∈ Yw vs l,validB x = true
 res : U6 y vs (RForm.stripL vs l) = some l
theorem Xo3 {a : RAtom} (h : a.zero = true) : a = Yr := by
 obtain ⟨o,⟨n1,p1,v1,f1,m1⟩,⟨n2,p2,v2,f2,m2⟩⟩ := a
 simpa [RAtom.zero,RTerm.zero,Yr,Xo0,and_assoc] using h
mutual
theorem Xva {y : RSrc} {vs : List RVar} (hv : Ua y vs = true) : ∀ (f : RForm) (d : Nat) (c : Nat × Nat),(f.okS y vs d c).1 = true → FormOk y vs f
 | .mk op n k a,d,c,h => by
  have s123 : signB 123 = true := by decide
  have s125 : signB 125 = true := by decide
  unfold RForm.okS at h
  split at h
  ·cases h
  split at h
  ·rename_i h1
   split at h
   ·rename_i h2
    simp only [Bool.and_eq_true,decide_eq_true_eq] at h2
    have ih := Xgi hv k (d + 1) (c.1 + 1,c.2) h
    obtain ⟨hz,rfl⟩ := h2
    have hz := Xo3 hz
    subst hz
    rcases h1 with rfl | rfl
    ·refine ⟨by rw [RForm.pr]; exact .inl ⟨rfl,ih.pr⟩,?_,?_⟩
     ·rw [Zi]
      have hn : nameB [97,108,108] = true := by decide
      simp only [if_true,List.mem_cons,List.mem_append,List.not_mem_nil,or_false]
      rintro x (rfl | rfl | hx | rfl)
      ·simp [validB,nmT,hn]
      ·simp [validB,sgT,s123]
      ·exact ih.toks x hx
      ·simp [validB,sgT,s125]
     ·simp [RForm.strip,Xb3,ih.res]
    ·refine ⟨by rw [RForm.pr]; exact .inr (.inl ⟨rfl,ih.pr⟩),?_,?_⟩
     ·rw [Zi]
      have hn : nameB [97,110,121] = true := by decide
      have h21 : ¬ (2 : Int) = 1 := by decide
      simp only [h21,if_false,if_true,List.mem_cons,List.mem_append,List.not_mem_nil,or_false]
      rintro x (rfl | rfl | hx | rfl)
      ·simp [validB,nmT,hn]
      ·simp [validB,sgT,s123]
      ·exact ih.toks x hx
      ·simp [validB,sgT,s125]
     ·simp [RForm.strip,Xb3,ih.res]
   ·cases h
  split at h
  ·rename_i h1
   split at h
   ·rename_i h2
    rename_i h00 h0
    simp only [Bool.and_eq_true,decide_eq_true_eq] at h2
    have ih := Xgi hv k (d + 1) (c.1 + 1,c.2) h
    obtain ⟨⟨hz,h3⟩,h4⟩ := h2
    have hz := Xo3 hz
    subst hz
    subst h1
    refine ⟨by rw [RForm.pr]; exact .inr (.inr (.inl ⟨rfl,ih.pr⟩)),?_,?_⟩
    ·rw [Zi]
     have hn : nameB [108,101,97,115,116] = true := by decide
     have h31 : ¬ (3 : Int) = 1 := by decide
     have h32 : ¬ (3 : Int) = 2 := by decide
     have hk8 : k.length ≤ 8 := by omega
     have h5 : n ≤ 1099511627776 := by omega
     have h6 : 0 ≤ n := by omega
     simp only [h31,h32,if_false,if_true,List.mem_cons,List.mem_append,List.not_mem_nil,or_false]
     rintro x (rfl | rfl | rfl | hx | rfl)
     ·simp [validB,nmT,hn]
     ·simp [validB,nuT,h5,h6]
     ·simp [validB,sgT,s123]
     ·exact ih.toks x hx
     ·simp [validB,sgT,s125]
    ·simp [RForm.strip,Xb3,ih.res]
   ·cases h
  split at h
  ·rename_i h1
   simp only [Bool.and_eq_true,decide_eq_true_eq] at h
   obtain ⟨⟨⟨hz,hk⟩,h3⟩,h4⟩ := h
   have hz := Xo3 hz
   have hk : k = [] := List.length_eq_zero_iff.1 hk
   subst hz
   subst hk
   subst h1
   obtain ⟨i,rfl⟩ : ∃ i : Nat,n = i := ⟨n.toNat,by omega⟩
   have hi : i < vs.length := by omega
   obtain ⟨f1,f2⟩ := Xrr hv hi
   have hvn : Ya0 vs (i : Int) = vs[i].name := by simp [Ya0,hi]
   have hn : nameB [104,97,115] = true := by decide
   refine ⟨by rw [RForm.pr]; exact .inr (.inr (.inr (.inl rfl))),?_,?_⟩
   ·rw [Zi]
    simp [validB,nmT,hn,hvn,f2]
   ·have hi0 : ¬ (i : Int) < 0 := by omega
    simp [RForm.strip,Xb3,hvn,f1,hi0]
  split at h
  ·rename_i h1
   simp only [Bool.and_eq_true,decide_eq_true_eq] at h
   obtain ⟨⟨⟨rfl,hk⟩,_⟩,ha⟩ := h
   have hk : k = [] := List.length_eq_zero_iff.1 hk
   subst hk
   subst h1
   obtain ⟨o1,o2,tA,tB⟩ := Xlh ha
   refine ⟨by rw [RForm.pr]; exact .inr (.inr (.inr (.inr ⟨rfl,o1,o2⟩))),?_,?_⟩
   ·rw [Zi]
    have hA := Xd7 tA
    have hB := Xd7 tB
    have hO : ∀ x ∈ opT a.op,validB x = true := by
     have h4 : a.op = 1 ∨ a.op = 2 ∨ a.op = 3 ∨ a.op = 4 := by omega
     have c1 : signB 61 = true := by decide
     have c2 : signB 60 = true := by decide
     have c3 : signB 33 = true := by decide
     rcases h4 with e | e | e | e <;> simp [opT,e,validB,sgT,c1,c2,c3]
    intro x hx
    simp at hx
    rcases hx with hx | hx | hx
    ·exact hA x hx
    ·exact hO x hx
    ·exact hB x hx
   ·simp [RForm.strip,Xb3,Xkv tA,Xkv tB]
  ·cases h
theorem Xgi {y : RSrc} {vs : List RVar} (hv : Ua y vs = true) : ∀ (l : List RForm) (d : Nat) (c : Nat × Nat),(RForm.okL y vs l d c).1 = true → FormsOk y vs l
 | [],d,c,h => ⟨by rw [RForm.prL]; trivial,by simp [Yw],by simp [RForm.stripL,U6]⟩
 | f :: r,d,c,h => by
  unfold RForm.okL at h
  split at h
  ·rename_i h1
   have i1 := Xva hv f d c h1
   have i2 := Xgi hv r d _ h
   have s59 : signB 59 = true := by decide
   refine ⟨by rw [RForm.prL]; exact ⟨i1.pr,i2.pr⟩,?_,by simp [RForm.stripL,U6,i1.res,i2.res]⟩
   rw [Yw]
   simp only [List.mem_append,List.mem_cons]
   rintro x (hx | rfl | hx)
   ·exact i1.toks x hx
   ·simp [validB,sgT,s59]
   ·exact i2.toks x hx
  ·cases h
end
def Xx5 (y : RSrc) (n : Int) : B := match y.purposes[n.toNat]? with | some p => p.name | none => []
def Zz (y : RSrc) (q : RQ) : List Tok := Xb1 q (Xx5 y q.purpose)
structure QOk (y : RSrc) (q : RQ) : Prop where
 name : nameB q.name = true
 pur0 : 0 ≤ q.purpose
 pur : Xi RPurpose.name y.purposes (Xx5 y q.purpose) 0 = q.purpose
 purIn : q.purpose.toNat < y.purposes.length
 purName : nameB (Xx5 y q.purpose) = true
 vars : Ua y q.vars = true
 form : FormOk y q.vars q.form
theorem Qd {y : RSrc} {q : RQ} (h : Yt y q = true) : QOk y q := by
 simp only [Yt,Bool.and_eq_true,decide_eq_true_eq] at h
 obtain ⟨⟨⟨⟨h1,h2⟩,h3⟩,h4⟩,h5⟩ := h
 cases hp : y.purposes[q.purpose.toNat]? with
 | none => rw [hp] at h3; cases h3
 | some p =>
  rw [hp] at h3
  simp only [Bool.and_eq_true,decide_eq_true_eq] at h3
  have hn : Xx5 y q.purpose = p.name := by simp [Xx5,hp]
  obtain ⟨hl,_⟩ := List.getElem?_eq_some_iff.1 hp
  exact ⟨h1,h2,by rw [hn]; exact h3.1,hl,by rw [hn]; exact h3.2,h4,Xva h4 q.form 1 (0,0) h5⟩
theorem Xsw {y : RSrc} {vs : List RVar} (hv : Ua y vs = true) : ∀ x ∈ vs.flatMap Xej,validB x = true := by
 intro x hx
 rw [List.mem_flatMap] at hx
 obtain ⟨v,hm,hx⟩ := hx
 obtain ⟨i,hi,rfl⟩ := List.mem_iff_getElem.1 hm
 have h := Xav hv i hi
 simp only [Xk6,Bool.and_eq_true,decide_eq_true_eq] at h
 have a1 : nameB Jr = true := by decide
 have a2 : nameB Xec = true := by decide
 have a3 : signB 59 = true := by decide
 simp only [Xej,List.mem_cons,List.mem_append,List.not_mem_nil,or_false] at hx
 rcases hx with rfl | rfl | rfl | hx | rfl
 ·simp [validB,nmT,a1]
 ·simp [validB,nmT,h.1.2]
 ·simp [validB,nmT,h.1.1.2]
 ·cases ho : vs[i].other
  ·simp [ho] at hx
  ·simp [ho] at hx
   subst hx
   simp [validB,nmT,a2]
 ·simp [validB,sgT,a3]
theorem Jq {y : RSrc} {q : RQ} (h : QOk y q) : ∀ x ∈ Zz y q,validB x = true := by
 have a1 : nameB Ybm = true := by decide
 have a2 : nameB Ybn = true := by decide
 have a3 : signB 123 = true := by decide
 have a4 : signB 59 = true := by decide
 have a5 : signB 125 = true := by decide
 intro x hx
 simp only [Zz,Xb1,List.mem_cons,List.mem_append,List.not_mem_nil,or_false] at hx
 rcases hx with rfl | rfl | rfl | rfl | rfl | hx | hx | rfl | rfl
 ·simp [validB,nmT,a1]
 ·simp [validB,nmT,h.name]
 ·simp [validB,nmT,a2]
 ·simp [validB,nmT,h.purName]
 ·simp [validB,sgT,a3]
 ·exact Xsw h.vars x hx
 ·exact h.form.toks x hx
 ·simp [validB,sgT,a4]
 ·simp [validB,sgT,a5]
end Go.Sx
