/- Contracts: what the scanner calls. Condition: the program is the seat's. -/
import Derived.Test.YtlkpnkkgkjkmbaaDoorLx6
import Derived.Test.YtlkpnkkgkjkmbaaDoorAb25
namespace Go.Lx
open Go Go.Ab
@[simp] theorem idxPV_tbl (f : Nat → Int) (kd : IntKind) (i : Int) : idxPV (.d (.ref (tblD f))) (.d (.int kd i)) = .d (.ref ((tblL f).getD i.toNat default)) := by simp only [tblD, idxPV]
@[simp] theorem idxPS_tbl (ob : Objs) (f : Nat → Int) (kd : IntKind) (i : Int) : idxPS ob 256 1 (.d (.ref (tblD f))) (.d (.int kd i)) = (0 ≤ i ∧ i < 256) := by
  simp only [tblD, idxPS_c, tblL_length]
  simp
  intro _ _ x hx; exact tblL_one f x hx
theorem cls_letter : ∀ n, n < 256 → (clsF n = 2 ↔ letterI n = true) := by decide +kernel
theorem cls_digit : ∀ n, n < 256 → (clsF n = 3 ↔ digitI n = true) := by decide +kernel
theorem cls_space : ∀ n, n < 256 → (clsF n = 1 ↔ spaceI n = true) := by decide +kernel
theorem cls_sign : ∀ n, n < 256 → (clsF n = 4 ↔ signI n = true) := by decide +kernel
theorem cls_range : ∀ n, n < 256 → 0 ≤ clsF n ∧ clsF n ≤ 4 := by decide +kernel
/-- a scanner, as data -/
abbrev scD (s : List UInt8) (i : Int) (l : List D) : D := .agg [.str s, .int .i64 i, tblD clsF, .list 4 l]
/-- a scanner, its tokens growing -/
abbrev scV (s : List UInt8) (i : Int) (y n : Nat) : V := .agg [.d (.str s), .d (.int .i64 i), .d (tblD clsF), .sl y n]
end Go.Lx
namespace Go.Proofs.YtlkpnkkgkjkmbaaDoor
open Go Go.Ab Go.Lx
set_option maxRecDepth 100000
section
variable {P : Prg} (hP : P.p = Tryd.prog)
include hP
theorem c_name1 (c : UInt8) (s : List UInt8) (i : Int) (l : List D) {ob : Objs} {K : V → Prop} (h : K (.d (.bool (partB c)))) : PCall P 44 [.d (.int .u8 c.toNat), .d (.ref (.ref (scD s i l)))] ob K := by
  refine pcall_lift hP mixed (ds := [.int .u8 c.toNat, .ref (.ref (scD s i l))]) ok44 lf44 TOk.nil ?_
  have hc := c.toNat_lt
  simp [lt44, hc, show (c.toNat : Int) < 256 by omega]
  refine (congrArg K ?_).mp h
  congr 2
  rw [Bool.eq_iff_iff]
  have h2 := cls_letter c.toNat hc
  have h3 := cls_digit c.toNat hc
  simp [partB, partI, h2, h3]
theorem c_number1 (c : UInt8) (s : List UInt8) (i : Int) (l : List D) {ob : Objs} {K : V → Prop} (h : K (.d (.bool (digitB c)))) : PCall P 46 [.d (.int .u8 c.toNat), .d (.ref (.ref (scD s i l)))] ob K := by
  refine pcall_lift hP mixed (ds := [.int .u8 c.toNat, .ref (.ref (scD s i l))]) ok46 lf46 TOk.nil ?_
  have hc := c.toNat_lt
  simp [lt46, hc, show (c.toNat : Int) < 256 by omega]
  refine (congrArg K ?_).mp h
  congr 2
  rw [Bool.eq_iff_iff]
  have h3 := cls_digit c.toNat hc
  simp [digitB, h3]
theorem c_sign1 (c : UInt8) {ob : Objs} {K : V → Prop} (h : K (.d (.bool (lineB c)))) : PCall P 48 [.d (.int .u8 c.toNat)] ob K := by
  refine pcall_lift hP mixed (ds := [.int .u8 c.toNat]) ok48 lf48 TOk.nil ?_
  simp [lt48]
  refine (congrArg K ?_).mp h
  congr 2
  rw [Bool.eq_iff_iff]
  simp [lineB]
  constructor
  · intro h1 h2; exact h1 (by rw [← UInt8.ofNat_toNat (x := c), show c.toNat = 10 by omega]; rfl)
  · intro h1 h2; subst h2; exact h1 rfl
theorem c_prefix (s t : List UInt8) {ob : Objs} {K : V → Prop} (h : K (.d (.bool (t.isPrefixOf s)))) : PCall P 47 [.d (.str s), .d (.str t)] ob K := by
  have h0 : ∀ {K : V → Prop}, K (.d (.bool (t.isPrefixOf s))) → PCall P 52 [.d (.str s), .d (.str t)] [] K := fun {K} h => by
    refine pcall_lift hP mixed (ds := [.str s, .str t]) ok52 lf52 TOk.nil ?_
    simp [lt52]
    refine (congrArg K ?_).mp h
    congr 2
    rw [Bool.eq_iff_iff]
    simp only [List.isPrefixOf_iff_prefix, List.prefix_iff_eq_take]
    by_cases hl : t.length ≤ s.length
    · simp [hl]; exact eq_comm
    · simp [hl]
      intro e
      have := congrArg List.length e
      simp at this; omega
  refine pcall_lift hP mixed (ds := [.str s, .str t]) ok47 lf47 TOk.nil ?_
  simp [lt47]
  exact h0 (by simpa using h)
/-- the text from the current place on whose bytes have a property -/
theorem c_run (s : List UInt8) (i : Nat) (hi : i ≤ s.length) (hs : s.length ≤ 1000000) (l : List D) (f : Nat) (fi ca : List D) (p : UInt8 → Bool) (hf : callable P.p f = true)
    (hp : ∀ (c : UInt8) (K : V → Prop), K (.d (.bool (p c))) → PCall P f (fi.map .d ++ .d (.int .u8 c.toNat) :: ca.map .d) [] K)
    {ob : Objs} {K : V → Prop} (h : K (.d (.str ((s.drop i).takeWhile p)))) : PCall P 43 [.d (.ref (scD s i l)), .d (.fn f fi ca)] ob K := by
  refine pcall_lift hP mixed (ds := [.ref (scD s i l), .fn f fi ca]) ok43 lf43 TOk.nil ?_
  simp [lt43]
  refine ALoop.go (ι := Nat) (fun j => [(0, .d (.ref (scD s i l))), (1, .d (.fn f fi ca)), (5, .d (.int .i64 j))]) (fun _ => []) (fun j => i ≤ j ∧ j ≤ s.length ∧ j + tw p s j = i + tw p s i) (fun j => s.length - j) i ⟨by omega, by omega, rfl⟩ rfl rfl ?_
  rintro j ⟨hj0, hj1, hj2⟩ R rn re _ _
  have ex : tw p s j = 0 → ∀ x, R (AExit.exit 0) [(0, .d (.ref (scD s i l))), (1, .d (.fn f fi ca)), (5, .d (.int .i64 j)), (26, x)] [] := fun h0 x => by
    refine re _ _ _ ?_
    simp [hj0, hj1]
    refine (congrArg K ?_).mp h
    congr 2
    rw [List.drop_take, takeWhile_take]
    congr 1
    simp only [tw] at hj2 h0 ⊢
    omega
  simp [lt43_l0]
  by_cases hjl : j < s.length
  · have hwj := wrap1 hjl hs
    simp [hjl, hwj, hf]
    refine ⟨PCall.acall (hp s[j] _ ?_), fun h => absurd h (by omega)⟩
    by_cases hb : p s[j] = true
    · simp [hb]
      refine rn [] (j + 1) _ _ ⟨?_, ?_, ?_⟩ ?_ ?_ ?_ ?_ ?_
      · omega
      · omega
      · rw [← hj2, tw_yes hjl (by simpa [hjl] using hb)]; omega
      · omega
      · simp
      · simp
      · simp
      · simp
    · simp [hb]
      exact ex (tw_no hjl (by simpa [hjl] using hb)) _
  · simp [hjl]
    exact fun _ => ex (tw_ge (by omega)) _
end
end Go.Proofs.YtlkpnkkgkjkmbaaDoor
