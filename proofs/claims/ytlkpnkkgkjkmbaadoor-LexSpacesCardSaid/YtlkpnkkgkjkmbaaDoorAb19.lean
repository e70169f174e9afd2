/- Regions folded into expressions: the fold itself, and that it keeps what is shown. Over any program; no condition. -/
import Derived.Test.YtlkpnkkgkjkmbaaDoorAb18
namespace Go.Ab
open Go

inductive It2 where
  | chk (p : List (E × Bool)) (e : E)
  | lt (k : Nat) (p : List (E × Bool)) (e : E)
  | op (d : Option Nat) (i : I)
  | gop (p : List (E × Bool)) (d : Option Nat) (i : I)

def whenV (b : Bool) (v : V) : V := if b then v else .undef

def rwp2 (P : Prg) (T : Tab) (K : Slots → Objs → Prop) (Pn : V → Slots → Objs → Prop) : List It2 → Slots → Objs → Prop
  | [], sl, ob => K sl ob
  | .chk p e :: r, sl, ob => (holdsB T sl ob p = true → e.ok T sl ob) ∧ rwp2 P T K Pn r sl ob
  | .lt k p e :: r, sl, ob => (holdsB T sl ob p = true → e.ok T sl ob) ∧ rwp2 P T K Pn r ((k, whenV (holdsB T sl ob p) (e.val T sl ob)) :: sl) ob
  | .op d i :: r, sl, ob => i.wp P sl ob (fun v ob' => rwp2 P T K Pn r (put sl d v) ob') (fun v ob' => Pn v sl ob')
  | .gop p d i :: r, sl, ob => (holdsB T sl ob p = true → i.wp P sl ob (fun v ob' => rwp2 P T K Pn r (put sl d v) ob') (fun v ob' => Pn v sl ob')) ∧
      (holdsB T sl ob p = false → rwp2 P T K Pn r (put sl d .undef) ob)

def keepE (T : Tab) (sl : Slots) (ob : Objs) : List (Nat × E) → Slots
  | [] => []
  | (k, e) :: r => (k, e.val T sl ob) :: keepE T sl ob r
def keepOk (T : Tab) (sl : Slots) (ob : Objs) : List (Nat × E) → Prop
  | [] => True
  | (_, e) :: r => e.ok T sl ob ∧ keepOk T sl ob r

/-! What the operations read -/

def A.slots : A → List Nat
  | .t k => [k]
  | _ => []
def slotsL : List A → List Nat
  | [] => []
  | x :: r => x.slots ++ slotsL r
def slotsO : Option A → List Nat
  | some x => x.slots
  | none => []
def C.slots : C → List Nat
  | .mv x | .not x | .neg x | .isnil _ x | .pnil _ x | .fnil _ x | .usd x | .cvi _ x | .cvs x | .fldA _ _ x | .fld _ _ _ _ x | .ld _ _ x | .nilc x | .lenS x | .lenL x | .ext x _ | .mki _ x | .tas _ _ x => x.slots
  | .bin _ x y | .beq _ x y | .peq _ x y | .idx x y | .idxA _ x y | .idxP _ _ x y => x.slots ++ y.slots
  | .pick x y z => x.slots ++ (y.slots ++ z.slots)
  | .slcS x l h | .slcL _ x l h => x.slots ++ (slotsO l ++ slotsO h)
  | .lenA _ => []
  | .bld _ ps => slotsL (ps.map (·.2))
  | .mkf _ a b => slotsL a ++ slotsL b
def I.slots : I → List Nat
  | .c x => x.slots
  | .box _ x => x.slots
  | .alloc _ _ => []
  | .bls _ _ ps => slotsL (ps.map (·.2))
  | .blo _ _ _ ps => slotsL (ps.map (·.2))
  | .st _ x y => x.slots ++ y.slots
  | .app _ _ _ x y => x.slots ++ y.slots
  | .appS _ _ x y => x.slots ++ y.slots
  | .call _ l => slotsL l
  | .pcall _ l => slotsL l
  | .callv x l => x.slots ++ slotsL l
  | .panic x => x.slots
  | .b2s x => x.slots
  | .s2b x => x.slots
  | .nilo _ _ x => x.slots
  | .mvf x => x.slots
  | .ldf _ _ x => x.slots
  | .mvg _ _ y x _ => y.slots ++ x.slots
  | .cvb x => x.slots
  | .ustr _ x y => x.slots ++ y.slots

section
variable {P : Prg} {sl sl' : Slots} {ob : Objs}
theorem A.ev_eq {x : A} (h : ∀ k ∈ x.slots, look sl k = look sl' k) : x.ev sl = x.ev sl' := by
  cases x <;> simp_all [A.ev, A.slots]
theorem evL_eq : ∀ {l : List A}, (∀ k ∈ slotsL l, look sl k = look sl' k) → l.map (A.ev sl) = l.map (A.ev sl')
  | [], _ => rfl
  | x :: r, h => by
    simp only [slotsL, List.mem_append] at h
    simp only [List.map_cons, A.ev_eq (fun k hk => h k (.inl hk)), evL_eq (fun k hk => h k (.inr hk))]
theorem evO_eq {l : Option A} (h : ∀ k ∈ slotsO l, look sl k = look sl' k) : l.map (A.ev sl) = l.map (A.ev sl') := by
  cases l with
  | none => rfl
  | some x => simp only [Option.map_some, A.ev_eq h]
theorem evP_eq : ∀ {l : List (Nat × A)}, (∀ k ∈ slotsL (l.map (·.2)), look sl k = look sl' k) → (l.map fun x => (x.1, A.ev sl x.2)) = l.map fun x => (x.1, A.ev sl' x.2)
  | [], _ => rfl
  | x :: r, h => by
    simp only [List.map_cons, slotsL, List.mem_append] at h
    simp only [List.map_cons, A.ev_eq (fun k hk => h k (.inl hk)), evP_eq (fun k hk => h k (.inr hk))]
theorem C.wp_eq {K : V → Prop} {c : C} (h : ∀ k ∈ c.slots, look sl k = look sl' k) : c.wp sl ob K = c.wp sl' ob K := by
  cases c <;> simp only [C.slots, List.mem_append] at h <;> simp only [C.wp]
  case bld => rw [evP_eq h]
  case mkf => rw [evL_eq (fun k hk => h k (.inl hk)), evL_eq (fun k hk => h k (.inr hk))]
  case pick => rw [A.ev_eq (fun k hk => h k (.inl hk)), A.ev_eq (fun k hk => h k (.inr (.inl hk))), A.ev_eq (fun k hk => h k (.inr (.inr hk)))]
  case slcS => rw [A.ev_eq (fun k hk => h k (.inl hk)), evO_eq (fun k hk => h k (.inr (.inl hk))), evO_eq (fun k hk => h k (.inr (.inr hk)))]
  case slcL => rw [A.ev_eq (fun k hk => h k (.inl hk)), evO_eq (fun k hk => h k (.inr (.inl hk))), evO_eq (fun k hk => h k (.inr (.inr hk)))]
  all_goals first
    | rw [A.ev_eq h]
    | rw [A.ev_eq (fun k hk => h k (.inl hk)), A.ev_eq (fun k hk => h k (.inr hk))]
theorem I.wp_eq {K Pn : V → Objs → Prop} {i : I} (h : ∀ k ∈ i.slots, look sl k = look sl' k) : i.wp P sl ob K Pn = i.wp P sl' ob K Pn := by
  cases i <;> simp only [I.slots, List.mem_append] at h <;> simp only [I.wp]
  case c => rw [C.wp_eq h]
  case bls => rw [evP_eq h]
  case blo => rw [evP_eq h]
  case call => rw [evL_eq h]
  case pcall => rw [evL_eq h]
  case callv => rw [A.ev_eq (fun k hk => h k (.inl hk)), evL_eq (fun k hk => h k (.inr hk))]
  all_goals first
    | rw [A.ev_eq h]
    | rw [A.ev_eq (fun k hk => h k (.inl hk)), A.ev_eq (fun k hk => h k (.inr hk))]

theorem I.wp_mono {K K' Pn Pn' : V → Objs → Prop} (hk : ∀ v b, K v b → K' v b) (hp : ∀ v b, Pn v b → Pn' v b) {i : I} (h : i.wp P sl ob K Pn) : i.wp P sl ob K' Pn' := by
  have ho : ∀ o b, outK K Pn o b → outK K' Pn' o b := fun o b => by cases o with | ret v => exact hk v b | panic v => exact hp v b
  have bx : ∀ {E v}, boxK E ob K v → boxK E ob K' v := fun h => ⟨h.1, hk _ _ h.2⟩
  have dk : ∀ {KD KD' : List D → Prop}, (∀ l, KD l → KD' l) → ∀ o, dK KD o → dK KD' o := fun f o h => by cases o with | none => exact h.elim | some l => exact f l h
  have gv : ∀ (o : Option (D × Objs)), givK K o → givK K' o := fun o h => by
    cases o with
    | none => exact h.elim
    | some q => exact hk _ _ h
  have ap : ∀ {E sz B ys u}, appK E sz B ob ys K u → appK E sz B ob ys K' u := fun {E sz B ys u} h => by
    unfold appK at h; split at h
    · simp only [appK]
      generalize lookO _ _ = o at h ⊢
      unfold appKo at h; split at h
      · obtain ⟨h1, h2, h3, h4, h5⟩ := h
        exact ⟨h1, h2, h3, h4, hk _ _ h5⟩
      · exact h.elim
    · exact ⟨h.1, hk _ _ h.2⟩
    · exact h.elim
  cases i <;> simp only [I.wp] at h ⊢
  case c x => exact C.wp_mono (fun v => hk v ob) x h
  case box => exact bx h
  case alloc => exact bx h
  case bls => exact bldK_mono (fun _ => dk (fun _ => hk _ _) _) _ _ h
  case blo => exact bldK_mono (fun _ => dk (fun _ h => hk _ _ h) _) _ _ h
  case st x y =>
    generalize A.ev sl x = v at h ⊢
    unfold stK at h; split at h
    · simp only [stK]
      generalize lookO _ _ = o at h ⊢
      unfold stKo at h; split at h
      · simp only [stKo]
        generalize V.at _ _ = o at h ⊢
        unfold stKt at h; split at h
        · obtain ⟨h1, h2, h3, t, h4, h5⟩ := h
          exact ⟨h1, h2, h3, t, h4, hk _ _ h5⟩
        · exact h.elim
      · exact h.elim
    · exact h.elim
  case app x y =>
    generalize A.ev sl y = v at h ⊢
    unfold srcK at h; split at h
    · exact ⟨h.1, ap h.2⟩
    · exact ap h
    · exact h.elim
  case appS x y =>
    generalize A.ev sl y = v at h ⊢
    unfold srcSK at h; split at h
    · exact ap h
    · exact h.elim
  case mvf x =>
    generalize V.giv _ _ = v at h ⊢
    exact gv _ h
  case ldf x =>
    generalize A.ev sl x = v at h ⊢
    unfold ldfK at h; split at h
    · simp only [ldfK]
      generalize atO _ _ _ = o at h ⊢
      unfold ldfKo at h; split at h
      · exact ⟨h.1, h.2.1, gv _ h.2.2⟩
      · exact h.elim
    · exact h.elim
  case mvg y x p =>
    generalize A.ev sl x = v at h ⊢
    unfold mvgK at h; split at h
    · simp only [mvgK]
      generalize lookO _ _ = o at h ⊢
      unfold mvgKt at h; split at h
      · simp only [mvgKt]
        refine ⟨h.1, ?_⟩
        have h := h.2
        generalize V.set _ _ _ = o at h ⊢
        cases o with
        | none => exact h.elim
        | some t => exact hk _ _ h
      · exact h.elim
    · exact h.elim
  case cvb x =>
    generalize A.ev sl x = v at h ⊢
    unfold cvbK at h; split at h
    · simp only [cvbK]
      generalize lookO _ _ = o at h ⊢
      unfold cvbKo at h; split at h
      · exact ⟨h.1, h.2.1, h.2.2.1, hk _ _ h.2.2.2⟩
      · exact h.elim
    · exact h.elim
  case ustr x y =>
    generalize A.ev sl x = v at h ⊢; generalize A.ev sl y = u at h ⊢
    unfold ustrK at h; split at h
    · simp only [ustrK]
      generalize lookO _ _ = o at h ⊢
      unfold ustrKo at h; split at h
      · obtain ⟨h1, h2, h3, h4, h5, h6, s, h7, h8⟩ := h
        exact ⟨h1, h2, h3, h4, h5, h6, s, h7, hk _ _ h8⟩
      · exact h.elim
    · exact ⟨h.1, hk _ _ h.2⟩
    · exact h.elim
  case call => exact h.mono ho
  case pcall => exact h.mono fun v => hk v ob
  case callv x l =>
    generalize A.ev sl x = v at h ⊢
    unfold callvK at h; split at h
    · exact ⟨h.1, h.2.mono ho⟩
    · exact ⟨h.1, h.2.mono ho⟩
    · exact h.elim
  case panic x =>
    generalize A.ev sl x = v at h ⊢
    unfold panicK at h; split at h
    · exact hp _ _ h
    · exact hp _ _ h
    · exact h.elim
  case b2s x =>
    generalize A.ev sl x = v at h ⊢
    unfold b2sK at h; split at h
    · obtain ⟨h1, s, h2, h3⟩ := h
      exact ⟨h1, s, h2, hk _ _ h3⟩
    · exact hk _ _ h
    · exact h.elim
  case s2b x =>
    generalize A.ev sl x = v at h ⊢
    unfold s2bK at h; split at h
    · exact hk _ _ h
    · exact h.elim
  case nilo x =>
    generalize A.ev sl x = v at h ⊢
    unfold niloK at h; split at h
    · exact hk _ _ h
    · exact h.elim
end
end Go.Ab
