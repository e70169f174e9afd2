/- White space and comments between words; the law LexSpaces as a call. Condition: the program is the seat's; the powers of ten are laid. -/
import Derived.Test.YtlkpnkkgkjkmbaaDoorPl2
namespace Go.Lx
open Go Go.Ab
/-- what is read as nothing, whatever follows -/
def IsGap (g : List UInt8) : Prop := ∀ x off, lexR (g ++ x) off = lexR x (off + g.length)
theorem IsGap.nil : IsGap [] := fun _ _ => rfl
theorem lexR_space {c : UInt8} (h : spaceB c = true) (x : List UInt8) (off : Nat) : lexR (c :: x) off = lexR x (off + 1) := by
  have hs : stp c x = .skip 0 := by simp [stp, h]
  rw [lexR_skip hs]; simp
theorem IsGap.space {c : UInt8} {g : List UInt8} (h : spaceB c = true) (hg : IsGap g) : IsGap (c :: g) := fun x off => by
  rw [List.cons_append, lexR_space h, hg]; simp only [List.length_cons]; congr 1; omega
theorem IsGap.com {w g : List UInt8} (h : ∀ c ∈ w, c ≠ 10) (hg : IsGap g) : IsGap (47 :: 47 :: (w ++ 10 :: g)) := fun x off => by
  have hl : ((47 : UInt8) :: (w ++ 10 :: (g ++ x))).takeWhile lineB = 47 :: w := by
    have h1 : (w ++ 10 :: (g ++ x)).takeWhile lineB = w := by
      rw [takeWhile_stop lineB (by decide)]
      exact takeWhile_all fun c hc => by simp only [lineB, bne_iff_ne]; exact h c hc
    rw [List.takeWhile_cons, if_pos (by decide), h1]
  have hs : stp 47 (47 :: (w ++ 10 :: (g ++ x))) = .skip (w.length + 1) := by
    rw [stp_com ⟨rfl, rfl⟩, hl]; rfl
  have e : (47 :: 47 :: (w ++ 10 :: g)) ++ x = 47 :: 47 :: (w ++ 10 :: (g ++ x)) := by simp
  rw [e, lexR_skip hs]
  simp only [List.drop_succ_cons, List.drop_left]
  rw [lexR_space (by decide), hg]
  simp only [List.length_cons, List.length_append]
  congr 1; omega
/-- the gaps between words -/
def gapsL (w : List UInt8) : List (List UInt8) := [[32], [9], [10], [13, 10], [32, 32], 47 :: 47 :: (w ++ [10]), [32, 47, 47, 32, 10], [10, 47, 47, 10]]
theorem gaps_ok {w : List UInt8} (h : ∀ c ∈ w, c ≠ 10) : ∀ g ∈ gapsL w, IsGap g ∧ g.length ≤ w.length + 5 := by
  intro g hg
  simp only [gapsL, List.mem_cons, List.not_mem_nil, or_false] at hg
  rcases hg with rfl | rfl | rfl | rfl | rfl | rfl | rfl | rfl
  · exact ⟨.space rfl .nil, by simp⟩
  · exact ⟨.space rfl .nil, by simp⟩
  · exact ⟨.space rfl .nil, by simp⟩
  · exact ⟨.space rfl (.space rfl .nil), by simp⟩
  · exact ⟨.space rfl (.space rfl .nil), by simp⟩
  · exact ⟨.com h .nil, by simp⟩
  · exact ⟨.space rfl (.com (w := [32]) (by decide) .nil), by simp⟩
  · exact ⟨.space rfl (.com (w := []) (by decide) .nil), by simp⟩
def gapAt (w : List UInt8) (turns : List UInt8) (i : Nat) : List UInt8 := if i < turns.length then (gapsL w)[(turns[i]?.getD 0).toNat % 8]?.getD [] else [32]
theorem gapAt_ok {w : List UInt8} (h : ∀ c ∈ w, c ≠ 10) (turns : List UInt8) (i : Nat) : IsGap (gapAt w turns i) ∧ (gapAt w turns i).length ≤ w.length + 5 := by
  unfold gapAt
  split
  · have hl : (turns[i]?.getD 0).toNat % 8 < (gapsL w).length := by simp only [gapsL, List.length_cons, List.length_nil]; omega
    rw [List.getElem?_eq_getElem hl]
    exact gaps_ok h _ (List.getElem_mem hl)
  · exact ⟨.space rfl .nil, by simp⟩
/-- words with gaps behind them -/
def joinG (w turns : List UInt8) : Nat → List Tok → List UInt8
  | _, [] => []
  | i, t :: r => wordT t ++ 32 :: (gapAt w turns i ++ joinG w turns (i + 1) r)
theorem joinG_snoc (w turns : List UInt8) : ∀ (l : List Tok) (i : Nat) (t : Tok), joinG w turns i (l ++ [t]) = joinG w turns i l ++ (wordT t ++ 32 :: gapAt w turns (i + l.length))
  | [], i, t => by simp [joinG]
  | a :: l, i, t => by
    simp only [List.cons_append, joinG, joinG_snoc w turns l, List.length_cons, List.append_assoc]
    rw [show i + 1 + l.length = i + (l.length + 1) by omega]
theorem joinG_len {w : List UInt8} (h : ∀ c ∈ w, c ≠ 10) (turns : List UInt8) : ∀ (l : List Tok) (i : Nat), (∀ t ∈ l, validB t = true) → (joinG w turns i l).length ≤ (w.length + 38) * l.length
  | [], i, _ => by simp [joinG]
  | a :: l, i, hv => by
    have h1 := joinG_len h turns l (i + 1) (fun t ht => hv t (by simp [ht]))
    have h2 := (word_ok (hv a (by simp))).2
    have h3 := (gapAt_ok h turns i).2
    simp only [joinG, List.length_append, List.length_cons, Nat.mul_add, Nat.mul_one]
    omega
theorem lexR_joinG {w : List UInt8} (hw : ∀ c ∈ w, c ≠ 10) (turns : List UInt8) : ∀ (l : List Tok) (i off : Nat), (∀ t ∈ l, validB t = true) → ∃ m, lexR (joinG w turns i l) off = .ok m ∧ sameB l m = true
  | [], i, off, _ => ⟨[], by simp [joinG, lexR_nil'], rfl⟩
  | t :: l, i, off, h => by
    obtain ⟨c, r, e1, e2, e3⟩ := word_stp (h t (by simp))
    obtain ⟨m, m1, m2⟩ := lexR_joinG hw turns l (i + 1) (off + r.length + 1 + 1 + (gapAt w turns i).length) (fun x hx => h x (by simp [hx]))
    refine ⟨⟨t.kind, t.text, t.n, off⟩ :: m, ?_, ?_⟩
    · rw [joinG, e1, List.cons_append, lexR_tok ((stp_sp (.inr e3)).trans e2)]
      simp only [List.drop_left]
      rw [lexR_space rfl, (gapAt_ok hw turns i).1, m1]; rfl
    · rw [sameB, m2]; simp [sameT]
end Go.Lx
namespace Go.Lx
open Go Go.Ab
/-- a slice of bytes -/
def BD (a : D) (l : List UInt8) : Prop := a = .list 1 (bytesD l) ∨ a = .nils ∧ l = []
theorem bytesD_len (l : List UInt8) : (bytesD l).length = l.length := by rw [bytesD_map]; simp
section
variable {a : D} {l : List UInt8} (h : BD a l)
include h
theorem BD.len : lenLV (.d a) = .d (.int .i64 l.length) := by rcases h with rfl | ⟨rfl, rfl⟩ <;> simp [bytesD_len]
theorem BD.lenS (ob : Objs) : lenLS ob (.d a) = True := by rcases h with rfl | ⟨rfl, rfl⟩ <;> simp
theorem BD.idxS (k : IntKind) (i : Int) : idxAS 1 (.d a) (.d (.int k i)) = (0 ≤ i ∧ i < l.length) := by
  rcases h with rfl | ⟨rfl, rfl⟩
  · simp [bytesD_len]
  · simp [idxAS, idxAK]
theorem BD.idx {k : IntKind} {i : Nat} (hi : i < l.length) : idxAV (.d a) (.d (.int k i)) = .d (.ref (.int .u8 (l[i]?.getD 0).toNat)) := by
  rcases h with rfl | ⟨rfl, rfl⟩
  · have hb : (bytesD l)[i]?.getD default = .int .u8 (l[i]?.getD 0).toNat := by rw [bytesD_map]; simp [hi]
    simp [hb]
  · simp at hi
end
def noNl (s : List UInt8) : List UInt8 := s.filter fun c => c != 10
theorem noNl_mem {s : List UInt8} : ∀ c ∈ noNl s, c ≠ 10 := fun c h => by simp [noNl] at h; exact h.2
theorem noNl_step {s : List UInt8} {k : Nat} (h : k < s.length) : noNl (s.take (k + 1)) = if s[k]?.getD 0 = 10 then noNl (s.take k) else noNl (s.take k) ++ [s[k]?.getD 0] := by
  rw [List.take_add_one]
  simp only [noNl, List.filter_append, List.getElem?_eq_getElem h, Option.toList_some, Option.getD_some]
  split
  · rename_i e; simp [e]
  · rename_i e; simp [e]
end Go.Lx
namespace Go.Proofs.YtlkpnkkgkjkmbaaDoor
open Go Go.Ab Go.Lx
set_option maxRecDepth 100000
section
variable {P : Prg} (hP : P.p = Tryd.prog) (hG : Lx.Pow P)
include hP hG
theorem p_LexSpaces {a b : D} {l : List Tok} {turns : List UInt8} (ha : TD a l) (hb : BD b turns) (hl : l.length ≤ 9223372036854775807) (note : List UInt8) {ob : Objs} {K : V → Prop} (h : K (.d (.bool true))) : PCall P 8 [.d a, .d b, .d (.str note)] ob K := by
  refine pcall_lift hP mixed (ds := [a, b, .str note]) ok8 lf8 TOk.nil ?_
  simp [lt8]
  refine c_sane hP hG ?_
  simp
  refine c_Few hP ha hl fun b1 h1 => ?_
  cases b1 with
  | false => simpa using h
  | true =>
    have hl' : l.length ≤ 200 := h1 rfl
    simp
    refine ⟨fun _ => h, fun hn => ?_⟩
    refine ALoop.go (ι := Nat) (fun k => [(0, .d a), (1, .d b), (2, .d (.str note)), (7, .d (.str (noNl (note.take k)))), (8, .d (.int .i64 k))]) (fun _ => []) (fun k => k ≤ note.length) (fun k => note.length - k) 0 (by simp) (by simp [noNl]) rfl ?_
    intro k hk R rn re rr _
    by_cases hlt : k < note.length
    · have w1 : IntKind.i64.wrap ((k : Int) + 1) = (k : Int) + 1 := IntWalk.i64_in _ (by omega)
      have hst := noNl_step hlt
      have htx : (note.take (k + 1)).drop k = [note[k]?.getD 0] := by
        rw [List.drop_take, Nat.add_sub_cancel_left, drop_cons hlt]; rfl
      simp [lt8_l4, hlt, w1]
      refine ⟨fun hc => ⟨⟨by omega, ?_⟩, ?_⟩, fun hc => ?_⟩
      · have := List.length_filter_le (fun c => c != 10) (note.take k)
        simp only [noNl]; simp at this; omega
      · have hc' : ¬ note[k]?.getD 0 = 10 := fun e => hc (by simp [hlt] at e; rw [e]; rfl)
        rw [if_neg hc'] at hst
        simp [lt8_s3, w1]
        refine rn [] (k + 1) _ _ (by omega) (by omega) ?_ rfl rfl rfl
        simp [hst, htx]
      · have hc' : note[k]?.getD 0 = 10 := by
          simp [hlt]
          rw [← UInt8.ofNat_toNat (x := note[k]), show note[k].toNat = 10 by omega]; rfl
        rw [if_pos hc'] at hst
        simp [lt8_s3, w1]
        refine rn [] (k + 1) _ _ (by omega) (by omega) ?_ rfl rfl rfl
        simp [hst]
    · obtain rfl : k = note.length := by omega
      simp [lt8_l4]
      refine re _ _ _ ?_
      simp [ha.len, ha.lenS]
      have hnl : (noNl note).length ≤ 100 := by have := List.length_filter_le (fun c => c != 10) note; simp only [noNl]; omega
      refine ⟨by omega, ?_⟩
      clear rn re rr
      have hgl : (D.list 1 [D.str [32], D.str [9], D.str [10], D.str [13, 10], D.str [32, 32], D.str (47 :: 47 :: (noNl note ++ [10])), D.str [32, 47, 47, 32, 10], D.str [10, 47, 47, 10]]) = .list 1 ((gapsL (noNl note)).map .str) := rfl
      rw [hgl]
      have hwn := noNl_mem (s := note)
      generalize noNl note = w at *
      refine ALoop.go (ι := Nat) (fun k => [(0, .d a), (1, .d b), (9, .d (.list 1 ((gapsL w).map .str))), (10, .d (.str (10 :: joinG w turns 0 (l.take k)))), (52, .d a), (53, .d (.int .i64 l.length)), (54, .d (.int .i64 k))]) (fun _ => []) (fun k => k ≤ l.length ∧ ∀ t ∈ l.take k, validB t = true) (fun k => l.length - k) 0 ⟨by simp, by simp⟩ (by simp [joinG]) rfl ?_
      rintro k ⟨hk2, hv⟩ R rn re rr _
      by_cases hlt2 : k < l.length
      · simp [lt8_l2, hlt2, ha.idxS, ha.idx hlt2, Tok.enc]
        have htd : D.list 4 [D.agg [D.int IntKind.i64 l[k].kind, D.str l[k].text, D.int IntKind.i64 l[k].n, D.int IntKind.i64 l[k].at_]] = toks [l[k]] := rfl
        rw [htd]
        refine c_Text hP hG (TD.lit _ [l[k]] rfl) (by simp) ?_
        by_cases hvk : validB l[k] = true
        · have ht : textV [l[k]] = .tup [.d (.str (wordT l[k])), .d (.int .i64 0)] := by rw [textV, if_pos (by simp [hvk])]; rfl
          rw [ht]
          have w1 : IntKind.i64.wrap ((k : Int) + 1) = (k : Int) + 1 := IntWalk.i64_in _ (by omega)
          have hv' : ∀ t ∈ l.take (k + 1), validB t = true := by
            intro t htm
            rw [List.take_add_one] at htm
            rcases List.mem_append.1 htm with h3 | h3
            · exact hv t h3
            · simp [hlt2] at h3; rw [h3]; exact hvk
          have hj : joinG w turns 0 (l.take (k + 1)) = joinG w turns 0 (l.take k) ++ (wordT l[k] ++ 32 :: gapAt w turns k) := by
            rw [List.take_add_one]
            simp only [List.getElem?_eq_getElem hlt2, Option.toList_some]
            rw [joinG_snoc]
            simp; rw [Nat.min_eq_left (by omega)]
          have hgk := (gapAt_ok hwn turns k).2
          have hwd := (word_ok hvk).2
          have hjl := joinG_len hwn turns (l.take k) 0 hv
          have hjm : (w.length + 38) * (l.take k).length ≤ 138 * 200 := Nat.mul_le_mul (by omega) (by simp; omega)
          have hN : ∀ n : Nat, n < 1000000 → IntKind.i64.wrap (n : Int) = n := fun n hn => IntWalk.i64_in _ (by omega)
          have fin : ∀ (g : List UInt8) (sl : Ab.Slots), g = gapAt w turns k → Ab.look sl 0 = .d a → Ab.look sl 1 = .d b → Ab.look sl 9 = .d (.list 1 ((gapsL w).map .str)) → Ab.look sl 10 = .d (.str (10 :: joinG w turns 0 (l.take k))) → Ab.look sl 13 = .d (.str (wordT l[k])) → Ab.look sl 17 = .d (.str g) → Ab.look sl 52 = .d a → Ab.look sl 53 = .d (.int .i64 l.length) → Ab.look sl 54 = .d (.int .i64 k) →
              cwp2 P [] lt8_s1 (Ab.blockK 3 (Ab.thenK (cwp2 P [] lt8_s0 R) R)) sl [(0, Ob.box 35 (V.d (D.agg [D.int IntKind.i64 l[k].kind, D.str l[k].text, D.int IntKind.i64 l[k].n, D.int IntKind.i64 l[k].at_])))] := by
            intro g sl hg h0 h1 h9 h10 h13 h17 h52 h53 h54
            subst hg
            simp [lt8_s1, lt8_s0, h0, h1, h9, h10, h13, h17, h52, h53, h54, w1]
            refine ⟨by omega, rn [] (k + 1) _ _ ⟨by omega, hv'⟩ (by omega) ?_ (by simp [young, fresh]) (by simp) (by simp)⟩
            simp [hj]
          by_cases ht3 : k < turns.length
          · have h8 : (gapsL w).length = 8 := rfl
            have hlt8 : turns[k].toNat % 8 < (gapsL w).length := by omega
            have e8 : ((turns[k].toNat : Int).tmod ((8 : Nat) : Int)).toNat = turns[k].toNat % 8 := by rw [← Int.ofNat_tmod]; omega
            have e9 : 0 ≤ ((turns[k].toNat : Int).tmod ((8 : Nat) : Int)) ∧ ((turns[k].toNat : Int).tmod ((8 : Nat) : Int)) < 8 := by rw [← Int.ofNat_tmod]; omega
            have hl256 := turns[k].toNat_lt
            simp [hb.len, hb.lenS, hb.idxS, ht3, hb.idx ht3]
            rw [hN _ (by omega), h8, e8, List.getElem?_eq_getElem hlt8]
            refine ⟨⟨⟨by simp [gapsL], e9.1, by omega⟩, rfl, rfl⟩, ?_⟩
            refine fin (gapsL w)[turns[k].toNat % 8] _ ?_ rfl rfl rfl rfl rfl rfl rfl rfl rfl
            rw [gapAt, if_pos ht3]
            simp [ht3, hlt8]
          · simp [hb.len, hb.lenS, ht3]
            refine fin [32] _ ?_ rfl rfl rfl rfl rfl rfl rfl rfl rfl
            rw [gapAt, if_neg ht3]
        · have hall : l.all validB = false := by
            rw [Bool.eq_false_iff]; intro e
            exact hvk (List.all_eq_true.1 e _ (List.getElem_mem hlt2))
          have ht : textV [l[k]] = .tup [.d (.str []), .d (.int .i64 90)] := by rw [textV, if_neg (by simp [hvk])]
          rw [ht]
          simp
          refine c_Text hP hG ha (by omega) ?_
          have ht2 : textV l = .tup [.d (.str []), .d (.int .i64 90)] := by rw [textV, if_neg (by simp [hall])]
          rw [ht2]
          simp
          refine rr _ _ ?_
          simpa using h
      · obtain rfl : k = l.length := by omega
        simp [lt8_l2]
        refine re _ _ _ ?_
        rw [List.take_length] at hv
        have hjl := joinG_len hwn turns l 0 hv
        have hjm : (w.length + 38) * l.length ≤ 138 * 200 := Nat.mul_le_mul (by omega) (by omega)
        obtain ⟨m, m1, m2⟩ := lexR_joinG hwn turns l 0 (0 + 1) hv
        have hx : lexR (10 :: joinG w turns 0 l) 0 = .ok m := by rw [lexR_space rfl]; exact m1
        obtain ⟨f1, _, f3, f4⟩ := lexV_ok (by simp; omega) hx
        simp
        refine c_Lex hP _ ?_
        rw [lexV_eq, f1, f3, f4]
        simp
        refine c_Same hP ha (TD.mk m) (by omega) ?_
        rw [m2]
        simpa using h
end
end Go.Proofs.YtlkpnkkgkjkmbaaDoor
