/- Texts of this claim joined by a program, part 7 of 15; the last is: Plain laws of the reader of questions: what it reads is at the front; a source cut where it failed fails at its end alone; it fails there whatever follows. No program. -/
import Derived.Test.YtmapdjjigmkbfaaGreatDoorV5
import Derived.Test.YtmapdjjigmkbfaaGreatDoorV6
import Derived.Shelf.Strings.Builder1
import Derived.Shelf.Strconv.Itoa0
import Derived.Shelf.Strconv.Itoa1
import Derived.Shelf.LaysM
import Derived.Shelf.Strconv.Itoa2
import Derived.Shelf.Strconv.Itoa3
import Derived.Shelf.Strings.Search1
import Derived.Shelf.Strings.Search2
import Derived.Shelf.Strings.Search3
import Derived.Shelf.Strings.Shaped
import Derived.Shelf.Slices.Equal
import Derived.Shelf.Slices.Empties2
import Derived.Test.YtmapdjjigmkbfaaGreatDoorProg
set_option linter.unusedSimpArgs false
set_option linter.unusedVariables false
set_option linter.unusedSectionVars false
set_option linter.defProp false
/- strings.Builder: copyCheck, walked (the shelf's body has a panic where this dump refuses). Condition: the program is the seat's. -/
namespace Go.Proofs.YtmapdjjigmkbfaaGreatDoor
open Go Go.Ab Go.Lx
set_option maxRecDepth 100000
open Go.RowKit in
set_option maxHeartbeats 1000000 in
theorem cc_used (b : Nat) (w : World) (h0 : w.cell? ⟨b,0,none⟩ = some (.pointer (some ⟨b,0,none⟩))) :
  Calls Tryz.prog 103 #[.pointer (some ⟨b,0,none⟩)] w fun e w' => e = .returned (.tuple #[]) ∧ w' = w := by
 have hX : (Tryz.prog.info? 134).map (·.size) = some 2 := by kernel_rfl
 obtain ⟨j,hj,_⟩ := Option.map_eq_some_iff.1 hX
 go_enter Tryz.func103,Tryz.ntmps103
 go_wp2
 rw [Lib.run_neq_ptr_same w _ Tryz.underlying132 hj]
 go_wp2
 go_end0
 exact ⟨rfl,rfl⟩
open Go.RowKit in
set_option maxHeartbeats 1000000 in
theorem cc_fresh (b : Nat) (w : World) (h0 : w.cell? ⟨b,0,none⟩ = some (.pointer none)) (hsh : w.shape? b = some (134,2)) (hfz : w.frozen? ⟨b,0,none⟩ = false) :
  Calls Tryz.prog 103 #[.pointer (some ⟨b,0,none⟩)] w fun e w' => e = .returned (.tuple #[]) ∧ w' = w.setCell ⟨b,0,none⟩ (.pointer (some ⟨b,0,none⟩)) := by
 have hX : (Tryz.prog.info? 134).map (·.size) = some 2 := by kernel_rfl
 have hY : liesAt Tryz.prog Tryz.prog.depth 134 (2 / Tryz.prog.cellsOf 134) 0 134 1 = true := by kernel_rfl
 obtain ⟨j,hj,hjs⟩ := Option.map_eq_some_iff.1 hX
 go_enter Tryz.func103,Tryz.ntmps103
 go_wp2
 rw [Lib.run_to_unsafe w ⟨b,0,none⟩ Tryz.underlying132 Tryz.underlying229 hj (by rw [hjs]; decide) hsh (Nat.zero_lt_succ 1)]
 simp only [Result.andThen]
 rw [Oper.upon_value]
 go_wp2
 rw [run_callFunc_extern Tryz.func131 (by kernel_rfl) (by kernel_rfl) (by kernel_rfl) (e := Extern.AbiNoEscape.same) (by kernel_rfl)]
 rw [Lib.run_noEscape]
 simp only [Result.andThen]
 rw [Oper.upon_value]
 go_wp2
 rw [Lib.run_from_unsafe w ⟨b,0,none⟩ Tryz.underlying229 Tryz.underlying132 hj hsh hY]
 simp only [Result.andThen]
 rw [Oper.upon_value]
 go_wp2
 go_end0
 exact ⟨rfl,rfl⟩
theorem bytesD_len : ∀ t : List UInt8,(bytesD t).length = t.length
 | [] => rfl
 | _ :: r => by simp [bytesD,bytesD_len r]
theorem bytesD_app : ∀ s t : List UInt8,bytesD (s ++ t) = bytesD s ++ bytesD t
 | [],_ => rfl
 | _ :: r,t => by simp [bytesD,bytesD_app r t]
theorem noMenO_set_gone {ob : Objs} (ids : Nat → Bool) (k : Nat) (h : noMenO ids ob = true) : noMenO ids (setO ob k .gone) = true := by
 induction ob with
 | nil => rfl
 | cons e r ih =>
  obtain ⟨j,o⟩ := e
  simp only [setO]
  split
  ·cases o <;> simp_all [noMenO]
  ·cases o <;> simp_all [noMenO]
section
variable {P : Prg} (hP : P.p = Tryz.prog)
include hP
theorem c_cc0 {ob : Objs} {x : Nat} (hx : lookO ob x = some (.box 134 (.d (.agg [.nilp,.nils])))) {K : Out → Objs → Prop} (h : K (.ret (.tup [])) (setO ob x (.box 134 (.agg [.ptr x [],.d .nils])))) : ACall P 103 [.ptr x []] ob K := by
 refine ⟨fun w ρ args ho hg hr => ?_⟩
 obtain ⟨b,cs,h1,h2,h3⟩ := ho.one x _ hx
 simp only [V.repC,D.rep,D.repL] at h3
 obtain ⟨c1,c2,rfl,rfl,c3,c4,rfl,rfl,rfl⟩ := h3
 simp only [V.reps,↓reduceCtorEq,false_or] at hr
 obtain ⟨u,us,rfl,hu,rfl⟩ := hr
 have hu' : (V.ptr x []).rep w ρ u := hu.elim (fun h => .inr (.inl h)) (fun h => .inr (.inr h))
 obtain ⟨b',sh,g1,g2⟩ := rep_ptr_box ho hx hu'
 rw [h1] at g1; simp only [Option.some.injEq,RO.box.injEq] at g1
 obtain ⟨rfl,rfl⟩ := g1
 have hoff : Sh.off (V.d (.agg [.nilp,.nils])).shape [] = 0 := rfl
 rw [hoff] at g2; subst g2
 rw [hP]
 have hre : (V.agg [.ptr x [],.d .nils]).repC w ρ [.pointer (some ⟨b,0,none⟩),.slice none 0 0] := by
  simp only [V.repC,V.repCs,D.rep]
  exact ⟨[_],[_],rfl,.inl ⟨b,_,h1,rfl⟩,[_],[],rfl,rfl,rfl⟩
 obtain ⟨t1,o1⟩ := write_box (t' := .agg [.ptr x [],.d .nils]) ho hx h1 h2 rfl hre
 refine (cc_fresh b w (by simp [World.cell?,h2]) (by simp [World.shape?,h2]) (by simp [World.frozen?,h2])).mono ?_
 rintro e w' ⟨rfl,rfl⟩
 have hw : w.setCell ⟨b,0,none⟩ (.pointer (some ⟨b,0,none⟩)) = w.setRow b [.pointer (some ⟨b,0,none⟩),.slice none 0 0].toArray := by
  simp only [World.setCell,World.setRow]
  congr 1
  apply Array.ext_getElem?
  intro i
  simp only [Array.getElem?_modify]
  split
  ·rename_i e; subst e; rw [h2]; simp
  ·rfl
 rw [hw]
 exact ⟨_,_,ρ,h,rep_tup.2 ⟨[],rfl,rfl⟩,o1,t1⟩
theorem c_cc1 {ob : Objs} {x : Nat} {v : V} (hx : lookO ob x = some (.box 134 (.agg [.ptr x [],v]))) {K : Out → Objs → Prop} (h : K (.ret (.tup [])) ob) : ACall P 103 [.ptr x []] ob K := by
 refine ⟨fun w ρ args ho hg hr => ?_⟩
 obtain ⟨b,cs,h1,h2,h3⟩ := ho.one x _ hx
 simp only [V.repC,V.repCs] at h3
 obtain ⟨c1,c2,rfl,h3,_⟩ := h3
 rcases h3 with ⟨b',sh,h4,rfl⟩ | ⟨h4,_⟩
 ·rw [h1] at h4; simp only [Option.some.injEq,RO.box.injEq] at h4
  obtain ⟨rfl,rfl⟩ := h4
  simp only [V.reps,↓reduceCtorEq,false_or] at hr
  obtain ⟨u,us,rfl,hu,rfl⟩ := hr
  have hu' : (V.ptr x []).rep w ρ u := hu.elim (fun h => .inr (.inl h)) (fun h => .inr (.inr h))
  obtain ⟨b',sh,g1,g2⟩ := rep_ptr_box ho hx hu'
  rw [h1] at g1; simp only [Option.some.injEq,RO.box.injEq] at g1
  obtain ⟨rfl,rfl⟩ := g1
  have hoff : Sh.off (V.agg [.ptr x [],v]).shape [] = 0 := rfl
  rw [hoff] at g2; subst g2
  rw [hP]
  refine (cc_used b w (by rw [hoff] at h2; simp [World.cell?,h2])).mono ?_
  rintro e w' ⟨rfl,rfl⟩
  exact ⟨_,_,ρ,h,rep_tup.2 ⟨[],rfl,rfl⟩,ho,.refl _ _⟩
 ·rw [h1] at h4; cases h4
theorem c_wb {ob : Objs} {x y : Nat} {c : Int} {l : List D} (hx : lookO ob x = some (.box 134 (.agg [.ptr x [],.sl y l.length]))) (hy : lookO ob y = some (.arr 5 1 l)) (hl : l.length ≤ 100000000) {K : Out → Objs → Prop} (h : K (.ret (.d .nili)) (setO (setO ob y (.arr 5 1 (l ++ [.int .u8 c]))) x (.box 134 (.agg [.ptr x [],.sl y (l.length + 1)])))) : ACall P 51 [.ptr x [],.d (.int .u8 c)] ob K := by
 have hxy : (y == x) = false := by rw [beq_eq_false_iff_ne]; intro e; subst e; rw [hx] at hy; cases hy
 have hyx : (x == y) = false := by rw [beq_eq_false_iff_ne]; intro e; subst e; rw [hx] at hy; cases hy
 refine acall_lift hP mixed ok51 lf51 TOk.nil ?_
 intro _ hm
 simp [Et51,hx]
 refine c_cc1 hP hx ?_
 simp [hx,hy,hxy,hyx]
 refine ⟨by omega,[],by simp,?_,?_⟩
 ·simp
  exact noMenO_set_box _ _ _ _ _ (noMenO_set_arr _ _ _ _ _ _ (hm _)) (by simp [hx,hy])
 ·simpa using h
theorem c_ws {ob : Objs} {x y : Nat} {t : List UInt8} {l : List D} (hx : lookO ob x = some (.box 134 (.agg [.ptr x [],.sl y l.length]))) (hy : lookO ob y = some (.arr 5 1 l)) (hl : l.length + t.length ≤ 100000000) {K : Out → Objs → Prop} (h : K (.ret (.tup [.d (.int .i64 t.length),.d .nili])) (setO (setO ob y (.arr 5 1 (l ++ bytesD t))) x (.box 134 (.agg [.ptr x [],.sl y (l.length + t.length)])))) : ACall P 52 [.ptr x [],.d (.str t)] ob K := by
 have hxy : (y == x) = false := by rw [beq_eq_false_iff_ne]; intro e; subst e; rw [hx] at hy; cases hy
 have hyx : (x == y) = false := by rw [beq_eq_false_iff_ne]; intro e; subst e; rw [hx] at hy; cases hy
 refine acall_lift hP mixed ok52 lf52 TOk.nil ?_
 intro _ hm
 simp [Et52,hx]
 refine c_cc1 hP hx ?_
 simp [hx,hy,hxy,hyx,bytesD_len]
 refine ⟨by omega,[],by simp,?_,?_⟩
 ·simp
  exact noMenO_set_box _ _ _ _ _ (noMenO_set_arr _ _ _ _ _ _ (hm _)) (by simp [hx,hy])
 ·simpa using h
theorem c_ws0 {ob : Objs} {x : Nat} {t : List UInt8} (hx : lookO ob x = some (.box 134 (.d (.agg [.nilp,.nils])))) (hl : t.length ≤ 100000000) {K : Out → Objs → Prop} (h : K (.ret (.tup [.d (.int .i64 t.length),.d .nili])) ((fresh ob,.arr 5 1 (bytesD t)) :: (setO ob x (.box 134 (.agg [.ptr x [],.sl (fresh ob) t.length]))))) : ACall P 52 [.ptr x [],.d (.str t)] ob K := by
 refine acall_lift hP mixed ok52 lf52 TOk.nil ?_
 intro _ hm
 simp [Et52,hx]
 refine c_cc0 hP hx ?_
 simp [hx,bytesD_len]
 have hy : young (fresh ob) [fresh ob] (fresh ob) = false := by simp [young]
 refine ⟨by omega,[fresh ob],by simp,?_,?_⟩
 ·simp [hy]
  exact noMenO_set_box _ _ _ _ _ (hm _) (by simp [hx,hy])
 ·simpa [hy] using h
theorem c_bs0 {ob : Objs} {x : Nat} (hx : lookO ob x = some (.box 134 (.d (.agg [.nilp,.nils])))) {K : Out → Objs → Prop} (h : K (.ret (.d (.str []))) ob) : ACall P 54 [.ptr x []] ob K := by
 refine acall_lift hP mixed ok54 lf54 TOk.nil ?_
 intro _ hm
 simp [Et54,hx]
 refine ⟨[],by simp,?_,?_⟩
 ·simp [hm]
 ·simpa using h
theorem c_bs {ob : Objs} {x y : Nat} {t : List UInt8} (hx : lookO ob x = some (.box 134 (.agg [.ptr x [],.sl y t.length]))) (hy : lookO ob y = some (.arr 5 1 (bytesD t))) (h0 : t ≠ []) (hl : t.length ≤ 100000000) {K : Out → Objs → Prop} (h : K (.ret (.d (.str t))) (setO ob y .gone)) : ACall P 54 [.ptr x []] ob K := by
 refine acall_lift hP mixed ok54 lf54 TOk.nil ?_
 intro _ hm
 have hb : bytesD t ≠ [] := by cases t with
  | nil => exact (h0 rfl).elim
  | cons c r => simp [bytesD]
 simp [Et54,hx,hy,bytesD_len,hb]
 have e1 : ∃ E z xs,(5 = E ∧ 1 = z ∧ bytesD t = xs) ∧ t.length = xs.length := ⟨_,_,_,⟨rfl,rfl,rfl⟩,(bytesD_len t).symm⟩
 have e2 : ∃ E sz xs,(5 = E ∧ 1 = sz ∧ bytesD t = xs) ∧ ¬sz = 0 ∧ t.length = xs.length ∧ ¬xs = [] := ⟨_,_,_,⟨rfl,rfl,rfl⟩,by decide,(bytesD_len t).symm,hb⟩
 first | refine ⟨e1,e2,e1,e2,by omega,t,rfl,[],by simp,?_,?_⟩ | refine ⟨e2,by omega,t,rfl,[],by simp,?_,?_⟩
 ·simp
  exact noMenO_set_gone _ _ (hm _)
 ·simpa using h
end
end Go.Proofs.YtmapdjjigmkbfaaGreatDoor
/- Laid by the kit's lay-shelf.mjs and lay-plain.mjs (a tool's print), cut down by shl.py. -/
namespace Go.Proofs
open Go.Shelf
def Tryz.laysM171_ren : Go.Shelf.Ren := ⟨fun | 171 => 53 | 243 => 104 | 246 => 132 | 283 => 143 | 284 => 144 | 285 => 145 | 286 => 146 | 129 => 162 | 317 => 161 | 318 => 163 | 319 => 164 | 320 => 165 | 337 => 174 | 338 => 175 | n => n,fun | 3 => 3 | 9 => 9 | 2 => 2 | 4 => 4 | 171 => 247 | 0 => 0 | 53 => 236 | 37 => 80 | 5 => 5 | 173 => 250 | 212 => 260 | 51 => 200 | 20 => 20 | 213 => 261 | 46 => 239 | 232 => 75 | 233 => 235 | n => n,fun | 17 => 2 | 18 => 3 | 19 => 4 | n => n⟩
theorem Tryz.laysM171 : Go.Proofs.LaysM.n171 Tryz.prog Tryz.laysM171_ren := {
 mixed := by kernel_rfl
 f129 := Tryz.func162.trans (congrArg some (by kernel_rfl))
 f171 := Tryz.func53.trans (congrArg some (by kernel_rfl))
 f243 := Tryz.func104.trans (congrArg some (by kernel_rfl))
 f246 := Tryz.func132.trans (congrArg some (by kernel_rfl))
 f283 := Tryz.func143.trans (congrArg some (by kernel_rfl))
 f284 := Tryz.func144.trans (congrArg some (by kernel_rfl))
 f285 := Tryz.func145.trans (congrArg some (by kernel_rfl))
 f286 := Tryz.func146.trans (congrArg some (by kernel_rfl))
 f317 := Tryz.func161.trans (congrArg some (by kernel_rfl))
 f318 := Tryz.func163.trans (congrArg some (by kernel_rfl))
 f319 := Tryz.func164.trans (congrArg some (by kernel_rfl))
 f320 := Tryz.func165.trans (congrArg some (by kernel_rfl))
 f337 := Tryz.func174.trans (congrArg some (by kernel_rfl))
 f338 := Tryz.func175.trans (congrArg some (by kernel_rfl))
 t0 := Tryz.underlying0
 a0 := Tryz.isAgg0
 z0 := Tryz.sizeOf0
 v0 := Tryz.zeroValue0
 t2 := Tryz.underlying2
 a2 := Tryz.isAgg2
 z2 := Tryz.sizeOf2
 v2 := Tryz.zeroValue2
 t3 := Tryz.underlying3
 a3 := Tryz.isAgg3
 z3 := Tryz.sizeOf3
 v3 := Tryz.zeroValue3
 t4 := Tryz.underlying4
 a4 := Tryz.isAgg4
 z4 := Tryz.sizeOf4
 v4 := Tryz.zeroValue4
 t5 := Tryz.underlying5
 a5 := Tryz.isAgg5
 z5 := Tryz.sizeOf5
 v5 := Tryz.zeroValue5
 t9 := Tryz.underlying9
 a9 := Tryz.isAgg9
 z9 := Tryz.sizeOf9
 v9 := Tryz.zeroValue9
 t20 := Tryz.underlying20
 a20 := Tryz.isAgg20
 z20 := Tryz.sizeOf20
 v20 := Tryz.zeroValue20
 t37 := Tryz.underlying80
 a37 := Tryz.isAgg80
 z37 := Tryz.sizeOf80
 v37 := Tryz.zeroValue80
 t46 := Tryz.underlying239
 a46 := Tryz.isAgg239
 z46 := Tryz.sizeOf239
 v46 := Tryz.zeroValue239
 t51 := Tryz.underlying200
 a51 := Tryz.isAgg200
 z51 := Tryz.sizeOf200
 v51 := Tryz.zeroValue200
 t53 := Tryz.underlying236
 a53 := Tryz.isAgg236
 z53 := Tryz.sizeOf236
 v53 := Tryz.zeroValue236
 t171 := Tryz.underlying247
 a171 := Tryz.isAgg247
 z171 := Tryz.sizeOf247
 v171 := Tryz.zeroValue247
 t173 := Tryz.underlying250
 a173 := Tryz.isAgg250
 z173 := Tryz.sizeOf250
 v173 := Tryz.zeroValue250
 t212 := Tryz.underlying260
 a212 := Tryz.isAgg260
 z212 := Tryz.sizeOf260
 v212 := Tryz.zeroValue260
 t213 := Tryz.underlying261
 a213 := Tryz.isAgg261
 z213 := Tryz.sizeOf261
 t232 := Tryz.underlying75
 a232 := Tryz.isAgg75
 z232 := Tryz.sizeOf75
 v232 := Tryz.zeroValue75
 t233 := Tryz.underlying235
 a233 := Tryz.isAgg235
 z233 := Tryz.sizeOf235
 v233 := Tryz.zeroValue235
 g17 := by kernel_rfl
 g18 := by kernel_rfl
 g19 := by kernel_rfl
 i0 := by kernel_rfl
 i2 := by kernel_rfl
 i3 := by kernel_rfl
 i4 := by kernel_rfl
 i5 := by kernel_rfl
 i9 := by kernel_rfl
 i20 := by kernel_rfl
 i37 := by kernel_rfl
 i46 := by kernel_rfl
 i51 := by kernel_rfl
 i53 := by kernel_rfl
 i171 := by kernel_rfl
 i173 := by kernel_rfl
 i212 := by kernel_rfl
 i232 := by kernel_rfl
 i233 := by kernel_rfl
 m17 := by kernel_rfl
 m18 := by kernel_rfl
 m19 := by kernel_rfl }
open Go.RowKit Go.Sort Go.Lib in
theorem Tryz.strconv_Itoa (n : Int) (h0 : -9223372036854775808 ≤ n) (h1 : n ≤ 9223372036854775807) (w : World) (htab : Lib.TabIs Tryz.prog w "internal/strconv.uint64pow10" .u64 Lib.pow10Tab) :
  Calls Tryz.prog 53 #[.int .i64 n] w fun e w' => e = .returned (.string ⟨(Lib.itoa n).toArray⟩) ∧ ∃ k os,w' = grow (w.drewN k) os := Any.strconv_Itoa Tryz.laysM171 n h0 h1 w htab
def Tryz.lays144_ren : Go.Shelf.Ren := ⟨fun | 144 => 102 | 143 => 130 | 219 => 142 | 217 => 157 | 225 => 158 | 224 => 159 | 267 => 160 | 266 => 172 | 314 => 173 | n => n,fun | 9 => 9 | 4 => 4 | 3 => 3 | 5 => 5 | 46 => 239 | 146 => 270 | 51 => 200 | n => n,fun | 1 => 1 | n => n⟩
theorem Tryz.lays144 : Go.Proofs.Lays.n144 Tryz.prog Tryz.lays144_ren := {
 mixed := by kernel_rfl
 f143 := Tryz.func130.trans (congrArg some (by kernel_rfl))
 f144 := Tryz.func102.trans (congrArg some (by kernel_rfl))
 f217 := Tryz.func157.trans (congrArg some (by kernel_rfl))
 f219 := Tryz.func142.trans (congrArg some (by kernel_rfl))
 f224 := Tryz.func159.trans (congrArg some (by kernel_rfl))
 f225 := Tryz.func158.trans (congrArg some (by kernel_rfl))
 f266 := Tryz.func172.trans (congrArg some (by kernel_rfl))
 f267 := Tryz.func160.trans (congrArg some (by kernel_rfl))
 f314 := Tryz.func173.trans (congrArg some (by kernel_rfl))
 t3 := Tryz.underlying3
 a3 := Tryz.isAgg3
 z3 := Tryz.sizeOf3
 v3 := Tryz.zeroValue3
 t4 := Tryz.underlying4
 a4 := Tryz.isAgg4
 z4 := Tryz.sizeOf4
 v4 := Tryz.zeroValue4
 t5 := Tryz.underlying5
 a5 := Tryz.isAgg5
 z5 := Tryz.sizeOf5
 v5 := Tryz.zeroValue5
 t9 := Tryz.underlying9
 a9 := Tryz.isAgg9
 z9 := Tryz.sizeOf9
 v9 := Tryz.zeroValue9
 t46 := Tryz.underlying239
 a46 := Tryz.isAgg239
 z46 := Tryz.sizeOf239
 v46 := Tryz.zeroValue239
 t51 := Tryz.underlying200
 a51 := Tryz.isAgg200
 z51 := Tryz.sizeOf200
 v51 := Tryz.zeroValue200
 t146 := Tryz.underlying270
 a146 := Tryz.isAgg270
 z146 := Tryz.sizeOf270
 v146 := Tryz.zeroValue270
 g1 := by kernel_rfl }
open Go.RowKit Go.Lib in
theorem Tryz.strings_Contains_one (s : ByteArray) (c : UInt8) (w : World) :
  Calls Tryz.prog 102 #[.string s,.string ⟨#[c]⟩] w fun e w' => e = .returned (.bool (decide (0 ≤ Lib.indexByte s.data.toList c))) ∧ w' = w := Any.strings_Contains_one Tryz.lays144 s c w
end Go.Proofs
/- Contracts: strings.Contains at one byte, strconv.Itoa, which tokens are valid, decimal digits. Condition: the program is the seat's; the powers of ten are laid. -/
namespace Go.Lx
open Go Go.Ab
def hasB (s : List UInt8) (c : UInt8) : Bool := s.any fun b => b == c
def fnC : Ab.Fn := ⟨fun vs => match vs with | [.d (.str _),.d (.str t)] => t.length = 1 | _ => False,fun vs => match vs with | [.d (.str s),.d (.str t)] => .d (.bool (hasB s (t.headD 0))) | _ => .any⟩
@[simp] theorem fnC_pre (s t : List UInt8) : fnC.pre [.d (.str s),.d (.str t)] = (t.length = 1) := by simp only [fnC]
@[simp] theorem fnC_val (s t : List UInt8) : fnC.val [.d (.str s),.d (.str t)] = .d (.bool (hasB s (t.headD 0))) := by simp only [fnC]
def validB (t : Tok) : Bool :=
 if t.kind = 1 then nameB t.text && decide (t.n = 0)
 else if t.kind = 2 then decide (t.text = []) && decide (0 ≤ t.n) && decide (t.n ≤ 1099511627776)
 else if t.kind = 3 then decide (t.text.length = 1) && signB (t.text.headD 0) && decide (t.n = 0)
 else false
def Pow (P : Prg) : Prop := ∃ T f,P.g 2 = some (.cells (Lib.pow10Tab.map fun z => Value.int .u64 z).toArray T f)
theorem ext_grow (w : World) (k : Nat) (os : Array Obj) : Ext w (Go.Sort.grow (w.drewN k) os) := by
 refine ⟨by simp [Go.Sort.grow],fun b hb => ?_,rfl,rfl,rfl⟩
 simp [Go.Sort.grow,Array.getElem?_append,hb]
theorem any_index (s : List UInt8) (c : UInt8) : decide (0 ≤ Lib.indexByte s c) = hasB s c := by
 unfold hasB
 induction s with
 | nil => rfl
 | cons b r ih =>
  have hg := Lib.indexByte_ge r c
  simp only [Lib.indexByte,List.any_cons,← ih]
  by_cases h : b == c
  ·simp [h]
  ·simp only [h]
   by_cases h2 : Lib.indexByte r c = -1
   ·simp [h2]
   ·have h3 : (Lib.indexByte r c == -1) = false := by simp [h2]
    simp only [h3,Bool.false_or]
    have : 0 ≤ Lib.indexByte r c := by omega
    simp [this]; omega
theorem hasB_signs (c : UInt8) : hasB [123,125,40,41,59,44,61,35,47,60,33,45,46,58,43] c = signB c := by
 unfold hasB signB signI signs
 congr 1
 funext b
 rw [Bool.eq_iff_iff]
 simp only [beq_iff_eq,decide_eq_true_eq,Int.natCast_inj]
 constructor
 ·intro h; rw [h]
 ·intro h; exact UInt8.toNat_inj.1 h
theorem len1 (s : List UInt8) : decide ((s.length : Int) = 1) = decide (s.length = 1) := by
 rw [Bool.eq_iff_iff]; simp only [decide_eq_true_eq]; omega
theorem head0 (s : List UInt8) : s[0]? = s.head? := by cases s <;> rfl
end Go.Lx
namespace Go.Proofs.YtmapdjjigmkbfaaGreatDoor
open Go Go.Ab Go.Lx
set_option maxRecDepth 100000
section
variable {P : Prg} (hP : P.p = Tryz.prog)
include hP
theorem c_Contains : PFn P 102 fnC := by
 intro vs hp ob K hK
 simp only [fnC] at hp hK
 split at hp
 ·rename_i s t
  simp only at hK
  match t,hp with
  | [c],_ =>
   refine ⟨fun w ρ args ho hg hr => ?_⟩
   simp only [V.reps,↓reduceCtorEq,false_or,V.isAgg,Bool.false_eq_true,false_and,V.repC,D.rep,true_and,List.cons.injEq,and_true] at hr
   obtain ⟨u,us,rfl,hu,u2,us2,rfl,hu2,rfl⟩ := hr
   subst hu; subst hu2
   rw [hP]
   refine (Tryz.strings_Contains_one ⟨s.toArray⟩ c w).mono ?_
   rintro e w' ⟨rfl,rfl⟩
   refine ⟨_,_,hK,rfl,?_,Ext.refl w'⟩
   rw [rep_bool,any_index]
   rfl
 ·exact hp.elim
theorem c_Itoa (hT : Pow P) (n : Int) (h0 : 0 ≤ n) (h1 : n ≤ 9223372036854775807) {ob : Objs} {K : V → Prop} (h : K (.d (.str (Lib.itoa n)))) : PCall P 53 [.d (.int .i64 n)] ob K := by
 refine ⟨fun w ρ args ho hg hr => ?_⟩
 simp only [V.reps,↓reduceCtorEq,false_or,V.isAgg,Bool.false_eq_true,false_and,V.repC,D.rep,true_and,List.cons.injEq,and_true] at hr
 obtain ⟨u,us,rfl,hu,rfl⟩ := hr
 subst hu
 rw [hP]
 obtain ⟨T,f,hT⟩ := hT
 have hb := (ho.glb 2 _ (by rw [hg,hT])).1
 have htab : Lib.TabIs Tryz.prog w "internal/strconv.uint64pow10" .u64 Lib.pow10Tab := by
  have hn : Tryz.prog.globalNamed "internal/strconv.uint64pow10" = some 2 := by kernel_rfl
  simp only [Lib.TabIs,World.var?,hn,Option.bind_some,hb]
 refine (Tryz.strconv_Itoa n (by omega) h1 w htab).mono ?_
 rintro e w' ⟨rfl,k,os,rfl⟩
 exact ⟨_,_,h,rfl,rep_str.2 rfl,ext_grow w k os⟩
theorem c_valid (t : Tok) {ob : Objs} {K : V → Prop} (h : K (.d (.bool (validB t)))) : PCall P 50 [.d t.enc] ob K := by
 refine pcall_lift hP mixed (ds := [t.enc]) ok50 lf50 (TOk.cons (c_Name hP) (TOk.cons (c_Contains hP) TOk.nil)) ?_
 have h' : ∀ x,x = validB t → K (.d (.bool x)) := fun b e => e ▸ h
 clear h
 obtain ⟨k,s,n,i⟩ := t
 simp [Et50,Tok.enc,hasB_signs]
 refine ⟨fun h1 => h' _ ?_,fun h1 => ⟨fun h2 => h' _ ?_,fun h2 => ⟨fun h3 => ⟨fun h4 => by omega,h' _ ?_⟩,fun h3 => h' _ ?_⟩⟩⟩
 ·subst h1; simp [validB,Bool.beq_eq_decide_eq]
 ·subst h2; simp [validB]
 ·subst h3; simp [validB,Bool.beq_eq_decide_eq,len1,signB,head0]
 ·simp [validB,h1,h2,h3]
end
end Go.Proofs.YtmapdjjigmkbfaaGreatDoor
/- Plain facts on decimal digits and equal tokens. No program. -/
namespace Go.Lx
open Go Go.Ab
def X8a (n : Nat) : UInt8 := UInt8.ofNat (48 + n % 10)
theorem Ye (n : Nat) : Lib.decDigits n = (if n < 10 then [] else Lib.decDigits (n / 10)) ++ [X8a n] := by
 rw [Lib.decDigits]
 split
 ·rename_i h; simp [X8a,Nat.mod_eq_of_lt h]
 ·simp [X8a]
theorem Xb2 (n : Nat) : (X8a n).toNat = 48 + n % 10 := by
 have : n % 10 < 10 := Nat.mod_lt _ (by decide)
 simp [X8a,UInt8.toNat_ofNat']; omega
theorem Xb8 (n : Nat) : Lib.itoa n = Lib.decDigits n := by
 unfold Lib.itoa; rw [if_neg (by omega)]; rfl
end Go.Lx
/- Plain facts on the text of tokens. No program. -/
namespace Go.Lx
open Go Go.Ab
def Z7 (t : Tok) : List UInt8 := if t.kind = 2 then Lib.itoa t.n else t.text
def X7 : List Tok → List UInt8
 | [] => []
 | [t] => Z7 t
 | t :: r => Z7 t ++ 32 :: X7 r
def Xhi (l : List Tok) : V := if l.all validB then .tup [.d (.str (X7 l)),.d (.int .i64 0)] else .tup [.d (.str []),.d (.int .i64 90)]
theorem Xet : ∀ (l : List Tok) (t : Tok),X7 (l ++ [t]) = if l = [] then Z7 t else X7 l ++ 32 :: Z7 t
 | [],t => rfl
 | [a],t => by simp [X7]
 | a :: b :: r,t => by
  have h := Xet (b :: r) t
  simp only [List.cons_append,X7] at h ⊢
  rw [h]; simp
theorem V7 (n : Nat) : (Lib.decDigits n).length ≤ n + 1 ∧ Lib.decDigits n ≠ [] := by
 refine ⟨?_,by rw [Ye]; simp⟩
 induction n using Nat.strongRecOn with
 | ind n ih =>
  rw [Ye]
  split
  ·simp
  ·have := ih (n / 10) (by omega)
   simp; omega
theorem Xei : ∀ (k n : Nat),n < 10 ^ (k + 1) → (Lib.decDigits n).length ≤ k + 1
 | 0,n,h => by rw [Ye,if_pos (by omega)]; simp
 | k + 1,n,h => by
  rw [Ye]
  split
  ·simp
  ·have := Xei k (n / 10) (by rw [Nat.pow_succ] at h; omega)
   simp; omega
theorem Xdq {t : Tok} (h : validB t = true) : Z7 t ≠ [] ∧ (Z7 t).length ≤ 32 := by
 unfold validB at h
 unfold Z7
 split at h
 ·rename_i e
  rw [if_neg (by omega)]
  simp [nameB] at h
  refine ⟨fun e => ?_,by omega⟩
  simp [e] at h
 ·split at h
  ·rename_i e
   rw [if_pos e]
   simp at h
   obtain ⟨N,hN⟩ := Int.eq_ofNat_of_zero_le h.1.2
   rw [hN,Xb8]
   exact ⟨(V7 N).2,Nat.le_trans (Xei 12 N (by omega)) (by decide)⟩
  ·rename_i e
   rw [if_neg e]
   split at h
   ·simp at h
    refine ⟨fun e => ?_,by omega⟩
    simp [e] at h
   ·cases h
theorem Xc2 : ∀ (l : List Tok),(∀ t ∈ l,validB t = true) → (X7 l).length ≤ 33 * l.length
 | [],_ => by simp [X7]
 | [t],h => by have := Xdq (h t (by simp)); simp [X7]; omega
 | a :: b :: r,h => by
  have h1 := Xdq (h a (by simp))
  have h2 := Xc2 (b :: r) (fun t ht => h t (by simp [ht]))
  simp only [X7,List.length_append,List.length_cons] at h2 ⊢
  omega
theorem Xz7 {l : List Tok} (h : ∀ t ∈ l,validB t = true) (h0 : l ≠ []) : X7 l ≠ [] := by
 match l,h0 with
 | [t],_ => exact (Xdq (h t (by simp))).1
 | a :: b :: r,_ => simp [X7]
theorem Xjt {l : List Tok} {k : Nat} (hk : k < l.length) : l.take (k + 1) = l.take k ++ [l[k]] := (List.take_append_getElem hk).symm
end Go.Lx
/- Plain laws of the lexer: shifting, joining. No program. -/
namespace Go.Lx
open Go Go.Ab
theorem Xdn (p : UInt8 → Bool) (r : List UInt8) : (r.takeWhile p).length ≤ r.length := (List.takeWhile_prefix p).length_le
theorem X03 {c : UInt8} {r : List UInt8} {n : Nat} (h : stp c r = .skip n) : n ≤ r.length := by
 unfold stp at h
 have := Xdn Vy r
 (repeat' split at h) <;> (first | (cases h; omega) | cases h)
theorem X70 {c : UInt8} {r : List UInt8} {k m : Int} {t : List UInt8} {n : Nat} (h : stp c r = .tok k t m n) : n ≤ r.length := by
 unfold stp at h
 have h1 := Xdn Zj r
 have h2 := Xdn X3 r
 (repeat' split at h) <;> (first | (cases h; omega) | cases h)
theorem W2 {c : UInt8} {r : List UInt8} {n off : Nat} (h : stp c r = .skip n) : Zo (c :: r) off = Zo (r.drop n) (off + n + 1) := by
 rw [Zo,h]
theorem Ud {c : UInt8} {r : List UInt8} {k m : Int} {t : List UInt8} {n off : Nat} (h : stp c r = .tok k t m n) : Zo (c :: r) off = Xr7 ⟨k,t,m,off⟩ (Zo (r.drop n) (off + n + 1)) := by
 rw [Zo,h]
theorem Xb9 {c : UInt8} {r : List UInt8} {off : Nat} (h : stp c r = .err) : Zo (c :: r) off = .err off := by
 rw [Zo,h]
theorem Qc (off : Nat) : Zo [] off = .ok [] := by rw [Zo]
theorem Xfz {M : List UInt8 → Nat → Prop} (h0 : ∀ off,M [] off)
  (h1 : ∀ c r n off,stp c r = .skip n → n ≤ r.length → M (r.drop n) (off + n + 1) → M (c :: r) off)
  (h2 : ∀ c r k t m n off,stp c r = .tok k t m n → n ≤ r.length → M (r.drop n) (off + n + 1) → M (c :: r) off)
  (h3 : ∀ c r off,stp c r = .err → M (c :: r) off) : ∀ s off,M s off := by
 have key : ∀ N s off,s.length ≤ N → M s off := by
  intro N
  induction N with
  | zero =>
   intro s off h
   have : s = [] := List.length_eq_zero_iff.1 (by omega)
   subst this; exact h0 off
  | succ N ih =>
   intro s off h
   cases s with
   | nil => exact h0 off
   | cons c r =>
    simp at h
    have hd : ∀ n,(r.drop n).length ≤ N := fun n => by simp; omega
    cases hs : stp c r with
    | skip n => exact h1 c r n off hs (X03 hs) (ih _ _ (hd n))
    | tok k t m n => exact h2 c r k t m n off hs (X70 hs) (ih _ _ (hd n))
    | err => exact h3 c r off hs
 exact fun s off => key _ s off (Nat.le_refl _)
theorem Vo (p : UInt8 → Bool) {z : UInt8} (hz : p z = false) : ∀ (r b : List UInt8),(r ++ z :: b).takeWhile p = r.takeWhile p
 | [],b => by simp [List.takeWhile,hz]
 | c :: r,b => by
  simp only [List.cons_append,List.takeWhile_cons,Vo p hz r b]
theorem Xbp (p : UInt8 → Bool) : ∀ (r x : List UInt8),(r.takeWhile p).length < r.length → (r ++ x).takeWhile p = r.takeWhile p
 | [],x,h => by simp at h
 | c :: r,x,h => by
  simp only [List.cons_append,List.takeWhile_cons] at h ⊢
  split
  ·rename_i hc
   rw [hc] at h
   simp at h
   rw [Xbp p r x h]
  ·rfl
theorem Zx (p : UInt8 → Bool) : ∀ (r : List UInt8) (j : Nat),(r.takeWhile p).length ≤ j → (r.take j).takeWhile p = r.takeWhile p
 | [],j,_ => by simp
 | c :: r,0,h => by
  simp only [List.takeWhile_cons] at h ⊢
  split at h
  ·simp at h
  ·rename_i hc; simp [hc]
 | c :: r,j + 1,h => by
  simp only [List.take_succ_cons,List.takeWhile_cons] at h ⊢
  split
  ·rename_i hc
   rw [hc] at h
   simp at h
   rw [Zx p r j h]
  ·rfl
def X5t (c : UInt8) (r : List UInt8) : Prop := c = 47 ∧ r.head? = some 47
theorem Xw2 {c : UInt8} {r : List UInt8} (h : X5t c r) : stp c r = .skip (r.takeWhile Vy).length := by
 obtain ⟨rfl,h⟩ := h
 simp [stp,h,V1,Xbn]
theorem X3l {c : UInt8} {r more : List UInt8} (h : (r.takeWhile Vy).length < r.length ∨ ¬ X5t c r) : stp c (r ++ 32 :: more) = stp c r := by
 have h1 : (r ++ 32 :: more).takeWhile Zj = r.takeWhile Zj := Vo _ (by decide) r more
 have h2 : (r ++ 32 :: more).takeWhile X3 = r.takeWhile X3 := Vo _ (by decide) r more
 have h4 : ((r ++ 32 :: more).head? = some 47) = (r.head? = some 47) := by cases r <;> simp
 unfold stp
 rw [h1,h2]
 simp only [h4]
 rcases h with h | h
 ·rw [Xbp _ _ _ h]
 ·have hf : ¬ (c = 47 ∧ r.head? = some 47) := h
  simp only [if_neg hf]
theorem Xw3 {c : UInt8} {r : List UInt8} {j n : Nat} (hn : n ≤ j) (h : stp c r = .skip n ∨ ∃ k t m,stp c r = .tok k t m n) : stp c (r.take j) = stp c r := by
 have hh : ¬ X5t c r → ¬ (c = 47 ∧ (r.take j).head? = some 47) := fun hc ⟨e1,e2⟩ => hc ⟨e1,by
  cases r with
  | nil => simp at e2
  | cons a r => cases j with
   | zero => simp at e2
   | succ j => simpa using e2⟩
 by_cases hc : X5t c r
 ·have hs := Xw2 hc
  have hn' : (r.takeWhile Vy).length = n := by
   rcases h with h | ⟨_,_,_,h⟩
   ·rw [hs] at h; cases h; rfl
   ·rw [hs] at h; cases h
  have hc' : X5t c (r.take j) := by
   refine ⟨hc.1,?_⟩
   cases r with
   | nil => simpa using hc.2
   | cons a r =>
    have ha : a = 47 := by simpa using hc.2
    subst ha
    have : Vy 47 = true := by decide
    simp [List.takeWhile_cons,this] at hn'
    cases j with
    | zero => omega
    | succ j => simp
  rw [hs,Xw2 hc',Zx _ _ _ (by omega)]
 ·have hf : ¬ (c = 47 ∧ r.head? = some 47) := hc
  unfold stp at h ⊢
  rw [if_neg (hh hc)]
  rw [if_neg hf] at h ⊢
  split
  ·rfl
  ·rename_i h1
   rw [if_neg h1] at h
   split
   ·rename_i h2
    rw [if_pos h2] at h
    split at h
    ·simp at h
     obtain ⟨_,_,_,_,_,_,h⟩ := h
     rw [Zx _ _ _ (by omega)]
    ·simp at h
   ·rename_i h2
    rw [if_neg h2] at h
    split
    ·rename_i h3
     rw [if_pos h3] at h
     split at h
     ·simp at h
      obtain ⟨_,_,_,_,_,_,h⟩ := h
      rename_i h4
      rw [Zx _ _ _ (by omega),h4]
     ·simp at h
    ·rfl
end Go.Lx
/- Plain laws of the lexer: places, names. No program. -/
namespace Go.Lx
open Go Go.Ab
theorem Um {p : UInt8 → Bool} : ∀ {r : List UInt8},(∀ x ∈ r,p x = true) → r.takeWhile p = r
 | [],_ => rfl
 | c :: r,h => by
  rw [List.takeWhile_cons,if_pos (h c (by simp)),Um (fun x hx => h x (by simp [hx]))]
theorem X02 {c : UInt8} {r : List UInt8} (hc : Zh c = true) (hr : ∀ x ∈ r,Zj x = true) (hl : r.length + 1 ≤ 32) : stp c r = .tok 1 (c :: r) 0 r.length := by
 have h1 : r.takeWhile Zj = r := by
  exact Um hr
 have h2 : V1 c = false := by
  simp only [Zh,V1,Z1,Xbn,decide_eq_true_eq,decide_eq_false_iff_not] at hc ⊢; omega
 have h3 : ¬ (c = 47 ∧ r.head? = some 47) := by
  rintro ⟨rfl,_⟩; revert hc; decide
 unfold stp
 rw [h2,if_neg (by simp),if_neg h3,if_pos hc,h1,if_pos hl]
theorem Ue {p : UInt8 → Bool} : ∀ {r : List UInt8} {x : UInt8},x ∈ r.takeWhile p → p x = true
 | [],x,h => by simp at h
 | c :: r,x,h => by
  simp only [List.takeWhile_cons] at h
  split at h
  ·rcases List.mem_cons.1 h with rfl | h
   ·assumption
   ·exact Ue h
  ·cases h
theorem Xi1 {s : List UInt8} : nameB s = true ↔ ∃ c r,s = c :: r ∧ Zh c = true ∧ (∀ x ∈ r,Zj x = true) ∧ r.length + 1 ≤ 32 := by
 cases s with
 | nil => simp [nameB]
 | cons c r =>
  have hp : Zh c = true → Zj c = true := by
   intro h; simp only [Zh,Zj,Xi9] at h ⊢; simp [h]
  simp only [nameB,List.length_cons,List.getD_cons_zero,Bool.and_eq_true,decide_eq_true_eq,List.all_cons,List.all_eq_true,List.cons.injEq,Zh] at *
  constructor
  ·rintro ⟨⟨⟨_,h1⟩,h2⟩,h3,h4⟩
   exact ⟨c,r,⟨rfl,rfl⟩,h2,h4,h1⟩
  ·rintro ⟨c',r',⟨rfl,rfl⟩,h2,h4,h1⟩
   exact ⟨⟨⟨by omega,h1⟩,h2⟩,hp h2,h4⟩
end Go.Lx
/- The parser of questions as a plain function of tokens; what is printed is parsed back. No program. -/
namespace Go.Sx
open Go Go.Ab Go.Lx
abbrev Yp0 : B := [97,115,107]
abbrev Yp1 : B := [102,111,114]
abbrev Xng : B := [102,114,111,109]
abbrev Xpk : B := [111,116,104,101,114]
abbrev X76 : B := [97,108,108]
abbrev X3q : B := [97,110,121]
abbrev Q5 : B := [108,101,97,115,116]
abbrev Xxb : B := [104,97,115]
def Xs2 (ts : List Tok) : Bool := Xo 3 [46] ts.tail
def Xm8 : M RTerm := do let a ← Va; Yn [46]; let b ← Va; pure ⟨a,b,0,0,0⟩
def Xm4 : M Int := do let t ← Ul 2 []; pure t.n
def Xeb : M RTerm := ifM (Xo 2 []) (do let n ← Xm4; pure ⟨[],[],-1,0,n⟩) Xm8
def opQ : M Int := do
 let b ← Yq 3 [61]
 if b then pure 1 else do
  let b ← Yq 3 [60]
  if b then do
   let b ← Yq 3 [61]
   pure (if b then 3 else 2)
  else do Yn [33]; Yn [61]; pure 4
def Xal : M RForm := do let a ← Xeb; let o ← opQ; let b ← Xeb; pure (.mk 5 0 [] ⟨o,a,b⟩)
def Xzo : M RForm := do let a ← Va; pure (.mk 4 0 [] ⟨0,⟨a,[],0,0,0⟩,Xq0⟩)
def Xbw {α : Type} (m : M α) : M α := fun ts => m ts.tail
def Xd4 (ts : List Tok) : Bool := Xo 1 [] ts && !Xs2 ts
def Up (w : B) (ts : List Tok) : Bool := decide ((ts.headD default).text = w)
mutual
def W0 : Nat → M RForm
 | 0 => fail 0
 | n + 1 => ifM Xd4
  (ifM (Up X76) (Xbw do Yn [123]; let l ← Yu n; pure (.mk 1 0 l Yt))
  (ifM (Up X3q) (Xbw do Yn [123]; let l ← Yu n; pure (.mk 2 0 l Yt))
  (ifM (Up Q5) (Xbw do let k ← Xm4; Yn [123]; let l ← Yu n; pure (.mk 3 k l Yt))
  (ifM (Up Xxb) (Xbw Xzo) Xal)))) Xal
def Yu : Nat → M (List RForm)
 | 0 => fail 0
 | n + 1 => do
  let b ← Yq 3 [125]
  if b then pure [] else do
   let f ← W0 n
   Yn [59]
   let l ← Yu n
   pure (f :: l)
end
def Xd0 (ts : List Tok) : Bool := Xo 1 Xng ts && !Xs2 ts
def Xxq : M RVar := do W6 Xng; let a ← Va; let b ← Va; let c ← Yq 1 Xpk; Yn [59]; pure ⟨a,b,0,c⟩
def Wk : Nat → M (List RVar)
 | 0 => fail 0
 | n + 1 => ifM Xd0 (do let v ← Xxq; let l ← Wk n; pure (v :: l)) (pure [])
def X1i : M Unit := fun ts => if ts = [] then .ok () [] else .err ts 100
def Vf (n : Nat) : M (RQ × B) := do
 W6 Yp0
 let a ← Va
 W6 Yp1
 let p ← Va
 Yn [123]
 let vs ← Wk n
 let f ← W0 n
 Yn [59]
 Yn [125]
 X1i
 pure (⟨a,0,vs,f⟩,p)
def fieldsOf (y : RSrc) (v : RVar) : List RField := match y.schemas[v.schema.toNat]? with | some c => c.fields | none => []
def Xwa (y : RSrc) (vs : List RVar) (t : RTerm) : Option RTerm :=
 if t.name = [] then some t else
  match vs[(Xe RVar.name vs t.name 0).toNat]? with
  | none => none
  | some v => if Xe RVar.name vs t.name 0 < 0 ∨ Xe RField.name (fieldsOf y v) t.path 0 < 0 then none
   else some ⟨t.name,t.path,Xe RVar.name vs t.name 0,Xe RField.name (fieldsOf y v) t.path 0,t.n⟩
mutual
def Xd6 (y : RSrc) (vs : List RVar) : RForm → Option RForm
 | .mk op n k a =>
  if op = 4 then (if Xe RVar.name vs a.a.name 0 < 0 then none else some (.mk 4 (Xe RVar.name vs a.a.name 0) k Yt))
  else if op = 5 then (match Xwa y vs a.a,Xwa y vs a.b with
   | some x,some z => some (.mk 5 n k ⟨a.op,x,z⟩)
   | _,_ => none)
  else (match Qh y vs k with
   | some l => some (.mk op n l a)
   | none => none)
def Qh (y : RSrc) (vs : List RVar) : List RForm → Option (List RForm)
 | [] => some []
 | f :: r => match Xd6 y vs f,Qh y vs r with
  | some g,some l => some (g :: l)
  | _,_ => none
end
def X3m (t : RTerm) : RTerm := if t.name = [] then ⟨[],[],-1,0,t.n⟩ else ⟨t.name,t.path,0,0,0⟩
mutual
def RForm.strip (vs : List RVar) : RForm → RForm
 | .mk op n k a =>
  if op = 4 then .mk 4 0 [] ⟨0,⟨Ym7 vs n,[],0,0,0⟩,Xq0⟩
  else if op = 5 then .mk 5 0 [] ⟨a.op,X3m a.a,X3m a.b⟩
  else if op = 3 then .mk 3 n (RForm.stripL vs k) Yt
  else .mk op 0 (RForm.stripL vs k) Yt
def RForm.stripL (vs : List RVar) : List RForm → List RForm
 | [] => []
 | f :: r => f.strip vs :: RForm.stripL vs r
end
mutual
def RForm.pr (vs : List RVar) : RForm → Prop
 | .mk op n k a => (op = 1 ∧ RForm.prL vs k) ∨ (op = 2 ∧ RForm.prL vs k) ∨ (op = 3 ∧ RForm.prL vs k) ∨ op = 4 ∨ (op = 5 ∧ 1 ≤ a.op ∧ a.op ≤ 4)
def RForm.prL (vs : List RVar) : List RForm → Prop
 | [] => True
 | f :: r => f.pr vs ∧ RForm.prL vs r
end
end Go.Sx
/- Equations of slices of arrays and of package arrays. Over any program; no condition. -/
namespace Go.Ab
open Go
section
variable {P : Prg} {sl : Xb} {ob : Objs} {KO PO : V → Objs → Prop} {T : Tab} {z n : Nat} {K : V → Prop}
@[simp] theorem iwp_blv (E sz : Nat) (z : List D) (Xs : List (Nat × A)) : I.wp P sl ob KO PO (.blv E sz z Xs) = Jf (z.map .d) (Xs.map fun (i,x) => (i,x.ev sl)) fun ks => KO (.sl (fresh ob) ks.length) ((fresh ob,.vec E sz ks) :: ob) := by simp only [I.wp]
@[simp] theorem iwp_apv (E sz B : Nat) (x y : A) : I.wp P sl ob KO PO (.apv E sz B x y) = X8o sz (fun ys => Xn7 E sz B ob ys KO (x.ev sl)) ob (y.ev sl) := by simp only [I.wp]
@[simp] theorem apvK_sl (E sz B id n : Nat) (ys : List V) : Xn7 E sz B ob ys KO (.sl id n) = Xdy id E sz B n ob ys KO (lookO ob id) := by simp only [Xn7]
@[simp] theorem Xsd (E sz B id n E' sz' : Nat) (ys xs : List V) : Xdy id E sz B n ob ys KO (some (.vec E' sz' xs)) = (E' = E ∧ sz' = sz ∧ n = xs.length ∧ (2 * (xs.length + ys.length) + 192) * B ≤ 281474976710656 ∧ KO (.sl id (xs.length + ys.length)) (setO ob id (.vec E sz (xs ++ ys)))) := by simp only [Xdy]
@[simp] theorem Xsc (E sz B id n E' sz' : Nat) (ys : List V) (xs : List D) : Xdy id E sz B n ob ys KO (some (.arr E' sz' xs)) = (E' = E ∧ sz' = sz ∧ n = xs.length ∧ (2 * (xs.length + ys.length) + 192) * B ≤ 281474976710656 ∧ KO (.sl id (xs.length + ys.length)) (setO ob id (.vec E sz (xs.map .d ++ ys)))) := by simp only [Xdy]
end
end Go.Ab
/- What a reading call of the parser of questions leaves. No program. -/
namespace Go.Sx
open Go Go.Ab Go.Lx
@[simp] theorem succ_ne (n : Nat) : ((n : Int) + 1 = 0) = False := by simp; omega
def atI (en : Int) : List Tok → Int
 | [] => en
 | x :: _ => x.at_
abbrev pv (ts : List Tok) (en : Int) (S : V) : V := .agg [.d (.list 4 (ts.map Tok.enc)),.d (.int .i64 en),S]
abbrev Vl (en : Int) (ts : List Tok) (_ : Int) : D := .iface 84 (.int .i64 (atI en ts))
abbrev pb (ts : List Tok) (en : Int) (S : V) : Ob := .box 90 (pv ts en S)
def PK {α : Type} (K : Out → Objs → Prop) (ob : Objs) (p : Nat) (en : Int) (S : V) (v : α → V) : R α → Prop
 | .ok a ts => K (.ret (v a)) (setO ob p (pb ts en S))
 | .err ts e => K (.panic (.d (Vl en ts e))) (setO ob p (pb ts en S))
section
variable {α β : Type} {K : Out → Objs → Prop} {ob : Objs} {p : Nat} {en : Int} {S : V} {v : α → V}
@[simp] theorem PK_ok (a : α) (ts : List Tok) : PK K ob p en S v (.ok a ts) = K (.ret (v a)) (setO ob p (pb ts en S)) := rfl
@[simp] theorem PK_err (e : Int) (ts : List Tok) : PK K ob p en S v (.err ts e) = K (.panic (.d (Vl en ts e))) (setO ob p (pb ts en S)) := rfl
theorem PK.bind {K' : Out → Objs → Prop} {ob1 : Objs} {v' : β → V} {m : M α} {f : α → M β} {ts : List Tok} (h : PK K ob p en S v' ((m >>= f) ts))
  (he : ∀ ts' e,K (.panic (.d (Vl en ts' e))) (setO ob p (pb ts' en S)) → K' (.panic (.d (Vl en ts' e))) (setO ob1 p (pb ts' en S)))
  (hk : ∀ a ts',m ts = .ok a ts' → PK K ob p en S v' (f a ts') → K' (.ret (v a)) (setO ob1 p (pb ts' en S))) : PK K' ob1 p en S v (m ts) := by
 rw [Xi] at h
 cases hm : m ts with
 | ok a ts' => rw [hm] at h; exact hk a ts' hm h
 | err ts' e => rw [hm] at h; exact he ts' e h
end
theorem PK.tail {α : Type} {K K' : Out → Objs → Prop} {ob ob1 : Objs} {p : Nat} {en : Int} {S : V} {v : α → V} {v' : α → V} {m : M α} {ts : List Tok} (h : PK K ob p en S v' (m ts))
  (he : ∀ ts' e,K (.panic (.d (Vl en ts' e))) (setO ob p (pb ts' en S)) → K' (.panic (.d (Vl en ts' e))) (setO ob1 p (pb ts' en S)))
  (hk : ∀ a ts',m ts = .ok a ts' → K (.ret (v' a)) (setO ob p (pb ts' en S)) → K' (.ret (v a)) (setO ob1 p (pb ts' en S))) : PK K' ob1 p en S v (m ts) := by
 cases hm : m ts with
 | ok a ts' => rw [hm] at h; exact hk a ts' hm h
 | err ts' e => rw [hm] at h; exact he ts' e h
theorem Wa {q : Nat → Bool} : ∀ {ob : Objs} {k E : Nat} {v : V},noMenO q ob = true → lookO ob k = some (.box E v) → V.men q v = false
 | (j,o) :: r,k,E,v,h,hl => by
  simp only [lookO] at hl
  split at hl
  ·cases hl
   simp only [noMenO,Bool.and_eq_true,Bool.not_eq_true'] at h
   exact h.1
  ·refine Wa (ob := r) ?_ hl
   cases o <;> simp_all [noMenO]
theorem Xp {ob ob2 : Objs} {p : Nat} {ts ts' : List Tok} {en : Int} {S : V} (hp : lookO ob p = some (pb ts en S)) (hm : ∀ kp,noMenO (young (fresh ob) kp) ob = true) {K : Objs → Prop} {vs : List V} (h : K (setO ob p (pb ts' en S))) (hv : V.mens (young (fresh ob) []) vs = false) (hd : Xw (young (fresh ob) []) ob2 = setO ob p (pb ts' en S)) : Xv (fresh ob) K vs ob2 := by
 refine ⟨[],hv,?_,?_⟩
 ·rw [hd]
  refine noMenO_set_box _ _ _ _ _ (hm _) ?_
  have := Wa (hm []) hp
  simpa [pv] using this
 ·rw [hd]; exact h
end Go.Sx
/- Contracts: the parser's small readers. Condition: the program is the seat's. -/
namespace Go.Proofs.YtmapdjjigmkbfaaGreatDoor
open Go Go.Ab Go.Lx Go.Sx
set_option maxRecDepth 100000
section
variable {P : Prg} (hP : P.p = Tryz.prog) {ob : Objs} {p : Nat} {ts : List Tok} {en : Int} {S : V} (hS : V.allD [S] = none) (hp : lookO ob p = some (pb ts en S)) {K : Out → Objs → Prop}
include hP hS hp
theorem X3r (e : Int) (h : K (.panic (.d (Vl en ts e))) (setO ob p (pb ts en S))) : ACall P 69 [.ptr p []] ob K := by
 refine acall_lift hP mixed Yl7 Yo9 TOk.nil fun _ hm => ?_
 cases ts with
 | nil =>
  simp [Yib,hp]
  have h' : K (.panic (.d (.iface 84 (.int .i64 en)))) (setO ob p (pb [] en S)) := h
  exact Xp hp hm h' (by simp) (by simp [Wj hp])
 | cons t ts =>
  simp [Yib,X4s,hp,Tok.enc]
  have h' : K (.panic (.d (.iface 84 (.int .i64 t.at_)))) (setO ob p (pb (t :: ts) en S)) := h
  exact Xp hp hm h' (by simp) (by simp [Wj hp])
theorem Xjz (k : Int) (t : B) (h : K (.ret (.d (.bool (Xo k t ts)))) (setO ob p (pb ts en S))) : ACall P 66 [.ptr p [],.d (.int .i64 0),.d (.int .i64 k),.d (.str t)] ob K := by
 refine acall_lift hP mixed Yh2 Yjf TOk.nil fun _ hm => ?_
 cases ts with
 | nil =>
  simp [X8w,hp]
  exact Xp hp hm (by simpa [Xo] using h) (by simp) (by simp [Wj hp])
 | cons x ts =>
  simp [X8w,hp,Tok.enc]
  exact Xp hp hm (by simpa [Xo] using h) (by simp) (by simp [Wj hp])
theorem Xxd (k : Int) (t : B) (h : K (.ret (.d (.bool (Xo k t ts.tail)))) (setO ob p (pb ts en S))) : ACall P 66 [.ptr p [],.d (.int .i64 1),.d (.int .i64 k),.d (.str t)] ob K := by
 refine acall_lift hP mixed Yh2 Yjf TOk.nil fun _ hm => ?_
 match ts,hp,h with
 | [],hp,h =>
  simp [X8w,hp]
  exact Xp hp hm (by simpa [Xo] using h) (by simp) (by simp [Wj hp])
 | [x],hp,h =>
  simp [X8w,hp]
  exact Xp hp hm (by simpa [Xo] using h) (by simp) (by simp [Wj hp])
 | x :: y :: ts,hp,h =>
  simp [X8w,hp,Tok.enc]
  have h1 : (1 : Int) < (ts.length : Int) + 2 := by omega
  simp only [h1,decide_true,Bool.true_and,implies_true,true_and]
  exact Xp hp hm (by simpa [Xo] using h) (by simp) (by simp [Wj hp])
theorem W8 (k : Int) (t : B) (h : PK K ob p en S (fun t => .d t.enc) (Ul k t ts)) : ACall P 63 [.ptr p [],.d (.int .i64 k),.d (.str t)] ob K := by
 refine acall_lift hP mixed Yl2 Yo4 TOk.nil fun _ hm => ?_
 simp [Ynr,hp]
 refine Xjz hP hS (ts := ts) (en := en) (S := S) (by simp [hp]) _ _ ?_
 simp [hp,X4k]
 refine ⟨fun hn => ?_,fun hn => ?_⟩
 ·simp [Ul,hn] at h
  refine X3r hP hS (ts := ts) (en := en) (S := S) (by simp [hp]) 100 ?_
  simp [hp]
  exact Xp hp hm h (by simp) (by simp [hp])
 ·cases ts with
  | nil => simp [Xo] at hn
  | cons x ts =>
   simp [Ul,hn] at h
   simp [X4j,hp,hS,Tok.enc]
   exact Xp hp hm h (by simp) (by simp [hp])
theorem Xdr (h : PK K ob p en S (fun t => .d (.str t)) (Va ts)) : ACall P 65 [.ptr p []] ob K := by
 refine acall_lift hP mixed Yl4 Yo6 TOk.nil fun _ hm => ?_
 simp [Ynt,hp]
 refine W8 hP hS hp _ _ ?_
 refine PK.bind h (fun ts' e h => ?_) (fun a ts' ha h => ?_)
 ·simp
  exact Xp hp hm h (by simp) (by simp [hp])
 ·simp [Tok.enc]
  exact Xp hp hm h (by simp) (by simp [hp])
theorem Xai (k : Int) (t : B) (h : PK K ob p en S (fun b => .d (.bool b)) (Yq k t ts)) : ACall P 67 [.ptr p [],.d (.int .i64 k),.d (.str t)] ob K := by
 refine acall_lift hP mixed Yl5 Yo7 TOk.nil fun _ hm => ?_
 simp [Ynu,hp]
 refine Xjz hP hS hp _ _ ?_
 simp [hp,X4m,X4n]
 refine ⟨fun hn => ?_,fun hn => ?_⟩
 ·simp [Yq,hn] at h
  exact Xp hp hm h (by simp) (by simp [hp])
 ·cases ts with
  | nil => simp [Xo] at hn
  | cons x ts =>
   simp [Yq,hn] at h
   simp [hp,hS]
   exact Xp hp hm h (by simp) (by simp [hp])
end
end Go.Proofs.YtmapdjjigmkbfaaGreatDoor
/- Contracts: terms and operations are read. Condition: the program is the seat's. -/
namespace Go.Proofs.YtmapdjjigmkbfaaGreatDoor
open Go Go.Ab Go.Lx Go.Sx
set_option maxRecDepth 100000
attribute [local simp ↓] ql qn qo qi qh qj qk qm zu zq zt zw zr zm zn zl zp zo qq qp qx qy zh qz qw qr zi qu qt qs za zd zb ze zf zg zy zx wc zz qb qa qd qc qe qg qf zk zj
section
variable {P : Prg} (hP : P.p = Tryz.prog) {ob : Objs} {p : Nat} {ts : List Tok} {en : Int} {S : V} (hS : V.allD [S] = none) (hp : lookO ob p = some (pb ts en S)) {K : Out → Objs → Prop}
include hP hS hp
theorem Yp2 (h : PK K ob p en S (fun o => .d (.int .i64 o)) (opQ ts)) : ACall P 112 [.ptr p []] ob K := by
 refine acall_lift hP mixed Yb5 Ygv TOk.nil fun _ hm => ?_
 simp [Yd9,hp,hS]
 rw [opQ] at h
 refine Xai hP hS (by simp [hp]) _ _ (PK.bind h (fun ts' e h => ?_) (fun a ts' ha h => ?_))
 ·simp
  exact Xp hp hm h (by simp) (by simp [hp])
 cases a
 ·skip
  simp only [Bool.false_eq_true,if_false,if_true,Y8,Uz] at h
  simp [hp,hS,Xnp,Xno,Xnn]
  refine Xai hP hS (by simp [hp]) _ _ (PK.bind h (fun ts' e h => ?_) (fun a ts' ha h => ?_))
  ·simp
   exact Xp hp hm h (by simp) (by simp [hp])
  cases a
  ·skip
   simp only [Bool.false_eq_true,if_false,if_true,Y8,Uz] at h
   simp [hp,hS,Xnm,Xnn]
   simp only [Yn,Y8,Uz] at h
   refine W8 hP hS (by simp [hp]) _ _ (PK.bind h (fun ts' e h => ?_) (fun a ts' ha h => ?_))
   ·simp
    exact Xp hp hm h (by simp) (by simp [hp])
   simp [hp,hS,Xxv]
   refine W8 hP hS (by simp [hp]) _ _ (PK.bind h (fun ts' e h => ?_) (fun a ts' ha h => ?_))
   ·simp
    exact Xp hp hm h (by simp) (by simp [hp])
   simp [hp,hS,Xxu]
   exact Xp hp hm h (by simp) (by simp [hp])
  ·skip
   simp only [Bool.false_eq_true,if_false,if_true,Y8,Uz] at h
   simp [hp,hS,Xnm]
   refine Xai hP hS (by simp [hp]) _ _ (PK.bind h (fun ts' e h => ?_) (fun a ts' ha h => ?_))
   ·simp
    exact Xp hp hm h (by simp) (by simp [hp])
   cases a
   ·skip
    simp only [Bool.false_eq_true,if_false,if_true,Y8,Uz] at h
    simp [hp,hS,Xnk,Xnl]
    exact Xp hp hm h (by simp) (by simp [hp])
   ·skip
    simp only [Bool.false_eq_true,if_false,if_true,Y8,Uz] at h
    simp [hp,hS,Xnk,Xnl]
    exact Xp hp hm h (by simp) (by simp [hp])
 ·skip
  simp only [Bool.false_eq_true,if_false,if_true,Y8,Uz] at h
  simp [hp,hS,Xno,Xnp]
  exact Xp hp hm h (by simp) (by simp [hp])
theorem X3s (h : PK K ob p en S (fun x => .d x.enc) (Xeb ts)) : ACall P 111 [.ptr p []] ob K := by
 refine acall_lift hP mixed Yb4 Ygu TOk.nil fun _ hm => ?_
 simp [Yd8,hp,hS]
 refine Xjz hP hS (ts := ts) (en := en) (S := S) (by simp [hp]) _ _ ?_
 cases hn : Xo 2 [] ts with
 | false =>
  simp only [Xeb,ifM,hn,Bool.false_eq_true,if_false,Xm8,Yn,Y8,Uz] at h
  simp [hp,hS,Xni,Xnj]
  refine Xdr hP hS (by simp [hp]) (PK.bind h (fun ts' e h => ?_) (fun a ts' ha h => ?_))
  ·simp
   exact Xp hp hm h (by simp) (by simp [hp])
  simp [hp,hS,Xxt]
  refine W8 hP hS (by simp [hp]) _ _ (PK.bind h (fun ts' e h => ?_) (fun a ts' ha h => ?_))
  ·simp
   exact Xp hp hm h (by simp) (by simp [hp])
  simp [hp,hS,Xxs]
  refine Xdr hP hS (by simp [hp]) (PK.bind h (fun ts' e h => ?_) (fun a ts' ha h => ?_))
  ·simp
   exact Xp hp hm h (by simp) (by simp [hp])
  simp [hp,hS,Xxr]
  exact Xp hp hm h (by simp) (by simp [hp])
 | true =>
  simp only [Xeb,ifM,hn,if_true,Xm4,Y8,Uz] at h
  simp [hp,hS,Xni,Xnj]
  refine W8 hP hS (by simp [hp]) _ _ (PK.bind h (fun ts' e h => ?_) (fun a ts' ha h => ?_))
  ·simp
   exact Xp hp hm h (by simp) (by simp [hp])
  simp [hp,hS,Tok.enc]
  exact Xp hp hm h (by simp) (by simp [hp])
end
end Go.Proofs.YtmapdjjigmkbfaaGreatDoor
/- Formulas that are being read: what they own. No program. -/
namespace Go.Sx
open Go Go.Ab Go.Lx
def Xc (N : Objs) : List Nat := N.map Prod.fst
theorem Ve {N ob : Objs} {j : Nat} (h : j ∈ Xc N) : lookO (N ++ ob) j = lookO N j := by
 induction N with
 | nil => cases h
 | cons x r ih =>
  obtain ⟨i,o⟩ := x
  simp only [List.cons_append,lookO]
  split
  ·rfl
  ·rename_i hi
   rcases List.mem_cons.1 h with rfl | h
   ·exact absurd rfl hi
   ·exact ih h
theorem Yf {N ob : Objs} {j : Nat} (h : j ∉ Xc N) : lookO (N ++ ob) j = lookO ob j := by
 induction N with
 | nil => rfl
 | cons x r ih =>
  obtain ⟨i,o⟩ := x
  simp only [List.cons_append,lookO]
  simp only [Xc,List.map_cons,List.mem_cons,not_or] at h
  rw [if_neg (fun e => h.1 e.symm)]
  exact ih h.2
theorem Y6 {N ob : Objs} {j : Nat} {o : Ob} (h : j ∉ Xc N) : setO (N ++ ob) j o = N ++ setO ob j o := by
 induction N with
 | nil => rfl
 | cons x r ih =>
  obtain ⟨i,o'⟩ := x
  simp only [List.cons_append,setO]
  simp only [Xc,List.map_cons,List.mem_cons,not_or] at h
  rw [if_neg (fun e => h.1 e.symm),ih h.2]
theorem Jn {q : Nat → Bool} {N ob : Objs} (h : ∀ j ∈ Xc N,q j = false) : Xw q (N ++ ob) = N ++ Xw q ob := by
 induction N with
 | nil => rfl
 | cons x r ih =>
  obtain ⟨i,o'⟩ := x
  simp only [List.cons_append,Xw]
  rw [if_neg (by rw [h i (by simp [Xc])]; simp),ih (fun j hj => h j (by simp only [Xc,List.map_cons,List.mem_cons]; exact .inr hj))]
theorem Wi {q : Nat → Bool} : ∀ {N ob : Objs},noMenO q (N ++ ob) = (noMenO q N && noMenO q ob)
 | [],ob => by simp [noMenO]
 | (i,o) :: r,ob => by cases o <;> simp [noMenO,Wi (N := r),Bool.and_assoc]
theorem Ya (ob : Objs) (k : Nat) (o : Ob) : Xc (setO ob k o) = Xc ob := by
 induction ob with
 | nil => rfl
 | cons x r ih =>
  obtain ⟨i,o'⟩ := x
  simp only [setO]
  split
  ·rfl
  ·simp only [Xc,List.map_cons] at ih ⊢; rw [ih]
theorem X8 {q : Nat → Bool} {X : Objs} (h : ∀ j ∈ Xc X,q j = false) : Xw q X = X := by
 have := Jn (ob := []) h
 simpa [Xw] using this
theorem Z9 (N M : Objs) : Xc (N ++ M) = Xc N ++ Xc M := by simp [Xc]
theorem Xz {ob : Objs} {j : Nat} (h : j ∈ Xc ob) : j < fresh ob := by
 induction ob with
 | nil => cases h
 | cons x r ih =>
  obtain ⟨i,o⟩ := x
  simp only [fresh]
  rcases List.mem_cons.1 h with rfl | h
  ·split
   ·exact Nat.lt_succ_self _
   ·rename_i hn; exact Nat.lt_of_not_le hn
  ·have := ih h
   split
   ·omega
   ·exact this
theorem Jt (N ob : Objs) : fresh ob ≤ fresh (N ++ ob) := by
 induction N with
 | nil => exact Nat.le_refl _
 | cons x r ih =>
  obtain ⟨i,o⟩ := x
  simp only [List.cons_append,fresh]
  split <;> omega
structure News (n : Nat) (N : Objs) : Prop where
 ge : ∀ j ∈ Xc N,n ≤ j
 men : ∀ q : Nat → Bool,(∀ j ∈ Xc N,q j = false) → noMenO q N = true
theorem News.nil (n : Nat) : News n [] := ⟨by simp [Xc],fun _ _ => rfl⟩
theorem News.app {n : Nat} {N M : Objs} (h : News n N) (h' : News n M) : News n (N ++ M) := by
 refine ⟨fun j hj => ?_,fun q hq => ?_⟩
 ·rw [Z9,List.mem_append] at hj
  exact hj.elim (h.ge j) (h'.ge j)
 ·rw [Wi,h.men q (fun j hj => hq j (by rw [Z9]; exact List.mem_append_left _ hj)),h'.men q (fun j hj => hq j (by rw [Z9]; exact List.mem_append_right _ hj))]; rfl
theorem News.le {n m : Nat} {N : Objs} (h : News n N) (hm : m ≤ n) : News m N := ⟨fun j hj => Nat.le_trans hm (h.ge j hj),h.men⟩
def Xt (vs : List V) : Ob := .vec 42 14 vs
mutual
def Zp (ob : Objs) : RForm → V → List Nat → Prop
 | .mk op n k a,v,ids => match k with
  | [] => (∃ z,(z = .nils ∨ z = .list 14 []) ∧ v = .d (.agg [iD op,iD n,z,a.enc])) ∧ ids = []
  | f :: r => ∃ id vs is,v = .agg [.d (iD op),.d (iD n),.sl id vs.length,.d a.enc] ∧ ids = id :: is ∧ lookO ob id = some (Xt vs) ∧ ∃ x ws b c,vs = x :: ws ∧ is = b ++ c ∧ Zp ob f x b ∧ Za ob r ws c
def Za (ob : Objs) : List RForm → List V → List Nat → Prop
 | [],vs,ids => vs = [] ∧ ids = []
 | f :: r,vs,ids => ∃ v ws a b,vs = v :: ws ∧ ids = a ++ b ∧ Zp ob f v a ∧ Za ob r ws b
end
theorem Vq {ob : Objs} {op n : Int} {k : List RForm} {a : RAtom} {v : V} {ids : List Nat} (hk : k ≠ []) : Zp ob (.mk op n k a) v ids ↔ ∃ id vs is,v = .agg [.d (iD op),.d (iD n),.sl id vs.length,.d a.enc] ∧ ids = id :: is ∧ lookO ob id = some (Xt vs) ∧ Za ob k vs is := by
 cases k with
 | nil => exact absurd rfl hk
 | cons f r => rw [Zp]; simp only [Za]
mutual
theorem Zp.look {ob ob' : Objs} : ∀ {f : RForm} {v : V} {ids : List Nat},Zp ob f v ids → (∀ j ∈ ids,lookO ob' j = lookO ob j) → Zp ob' f v ids
 | .mk op n [] a,v,ids,h,_ => by rw [Zp] at h ⊢; exact h
 | .mk op n (f :: r) a,v,ids,h,hl => by
  rw [Zp] at h ⊢
  obtain ⟨id,vs,is,e1,e2,h1,x,ws,b,c,e3,e4,h2,h3⟩ := h
  subst e2
  refine ⟨id,vs,is,e1,rfl,by rw [hl id (by simp)]; exact h1,x,ws,b,c,e3,e4,Zp.look h2 (fun j hj => hl j (by simp [e4,hj])),Za.look h3 (fun j hj => hl j (by simp [e4,hj]))⟩
theorem Za.look {ob ob' : Objs} : ∀ {l : List RForm} {vs : List V} {ids : List Nat},Za ob l vs ids → (∀ j ∈ ids,lookO ob' j = lookO ob j) → Za ob' l vs ids
 | [],vs,ids,h,_ => by rw [Za] at h ⊢; exact h
 | f :: r,vs,ids,h,hl => by
  rw [Za] at h ⊢
  obtain ⟨v,ws,a,b,e1,e2,h2,h3⟩ := h
  subst e2
  exact ⟨v,ws,a,b,e1,rfl,Zp.look h2 (fun j hj => hl j (by simp [hj])),Za.look h3 (fun j hj => hl j (by simp [hj]))⟩
end
theorem Za.snoc {ob : Objs} : ∀ {l : List RForm} {vs : List V} {ids : List Nat} {f : RForm} {v : V} {a : List Nat},Za ob l vs ids → Zp ob f v a → Za ob (l ++ [f]) (vs ++ [v]) (ids ++ a)
 | [],vs,ids,f,v,a,h,hf => by
  rw [Za] at h
  obtain ⟨rfl,rfl⟩ := h
  simp only [List.nil_append]
  rw [Za]
  exact ⟨v,[],a,[],rfl,by simp,hf,by rw [Za]; exact ⟨rfl,rfl⟩⟩
 | g :: r,vs,ids,f,v,a,h,hf => by
  rw [Za] at h
  obtain ⟨w,ws,b,c,rfl,rfl,h1,h2⟩ := h
  simp only [List.cons_append]
  rw [Za]
  exact ⟨w,ws ++ [v],b,c ++ a,rfl,by simp,h1,Za.snoc h2 hf⟩
theorem Za.len {ob : Objs} : ∀ {l : List RForm} {vs : List V} {ids : List Nat},Za ob l vs ids → vs.length = l.length
 | [],vs,ids,h => by rw [Za] at h; rw [h.1]; rfl
 | f :: r,vs,ids,h => by
  rw [Za] at h
  obtain ⟨v,ws,a,b,rfl,_,_,h2⟩ := h
  simp [Za.len h2]
theorem Zp.men {ob : Objs} {f : RForm} {v : V} {ids : List Nat} (h : Zp ob f v ids) {q : Nat → Bool} (hq : ∀ j ∈ ids,q j = false) : V.men q v = false := by
 obtain ⟨op,n,k,a⟩ := f
 cases k with
 | nil =>
  rw [Zp] at h
  obtain ⟨⟨z,_,rfl⟩,_⟩ := h
  simp [V.men]
 | cons g r =>
  rw [Zp] at h
  obtain ⟨id,vs,is,rfl,rfl,_⟩ := h
  simp [V.men,V.mens,hq]
theorem Za.mens {ob : Objs} : ∀ {l : List RForm} {vs : List V} {ids : List Nat},Za ob l vs ids → ∀ {q : Nat → Bool},(∀ j ∈ ids,q j = false) → V.mens q vs = false
 | [],vs,ids,h,q,_ => by rw [Za] at h; rw [h.1]; rfl
 | f :: r,vs,ids,h,q,hq => by
  rw [Za] at h
  obtain ⟨v,ws,a,b,rfl,rfl,h1,h2⟩ := h
  simp only [V.mens,Bool.or_eq_false_iff]
  exact ⟨h1.men (fun j hj => hq j (by simp [hj])),Za.mens h2 (fun j hj => hq j (by simp [hj]))⟩
theorem Zp.shape {ob : Objs} {f : RForm} {v : V} {ids : List Nat} (h : Zp ob f v ids) : ∃ kv,(kv.shape = .leaf ∧ kv.sto = true ∧ kv ≠ .any) ∧ v = V.mk [.d (iD f.op),.d (iD f.n),kv,.d f.atom.enc] := by
 obtain ⟨op,n,k,a⟩ := f
 cases k with
 | nil =>
  rw [Zp] at h
  obtain ⟨⟨z,hz,rfl⟩,_⟩ := h
  rcases hz with rfl | rfl
  ·exact ⟨.d .nils,⟨rfl,rfl,by simp⟩,by simp [V.mk,V.allD,RForm.op,RForm.n,RForm.atom]⟩
  ·exact ⟨.d (.list 14 []),⟨rfl,rfl,by simp⟩,by simp [V.mk,V.allD,RForm.op,RForm.n,RForm.atom]⟩
 | cons g r =>
  rw [Zp] at h
  obtain ⟨id,vs,is,rfl,rfl,_⟩ := h
  exact ⟨.sl id vs.length,⟨rfl,rfl,by simp⟩,by simp [V.mk,V.allD,RForm.op,RForm.n,RForm.atom]⟩
theorem Zp.fits {ob : Objs} {f : RForm} {v : V} {ids : List Nat} (h : Zp ob f v ids) : v.shape = .node [.leaf,.leaf,.leaf,.node [.leaf,.node [.leaf,.leaf,.leaf,.leaf,.leaf],.node [.leaf,.leaf,.leaf,.leaf,.leaf]]] ∧ v ≠ .any ∧ v.sto = true ∧ v.isAgg = true := by
 obtain ⟨kv,⟨k1,k2,k3⟩,rfl⟩ := h.shape
 refine ⟨?_,?_,?_,V.isAgg_mk _⟩
 ·rw [V.shape_kids (V.kids_mk _)]
  simp [k1]
 ·have := V.isAgg_mk [.d (iD f.op),.d (iD f.n),kv,.d f.atom.enc]
  intro e
  rw [e] at this
  cases this
 ·unfold V.mk
  split
  ·rfl
  ·simp [V.sto,V.stos,k2]
def RP {α : Type} (Z : α → List Tok → Prop) (E : List Tok → Int → Prop) : R α → Prop
 | .ok a ts => Z a ts
 | .err ts e => E ts e
section
variable {α β : Type} {Z : α → List Tok → Prop} {E E' : List Tok → Int → Prop} {Z' : β → List Tok → Prop} {m : M β} {f : β → M α} {ts : List Tok}
@[simp] theorem Yew (a : α) (ts : List Tok) : RP Z E (.ok a ts) = Z a ts := rfl
@[simp] theorem RP_err (e : Int) (ts : List Tok) : RP Z E (.err ts e) = E ts e := rfl
theorem RP.mono {γ : Type} {Z Z' : γ → List Tok → Prop} {r : R γ} (h : RP Z E r) (he : ∀ ts' e,E ts' e → E' ts' e) (hk : ∀ a ts',Z a ts' → Z' a ts') : RP Z' E' r := by
 cases r with
 | ok a ts' => exact hk a ts' h
 | err ts' e => exact he ts' e h
theorem RP.bind (h : RP Z E ((m >>= f) ts)) (he : ∀ ts' e,E ts' e → E' ts' e) (hk : ∀ a ts',m ts = .ok a ts' → RP Z E (f a ts') → Z' a ts') : RP Z' E' (m ts) := by
 rw [Xi] at h
 cases hm : m ts with
 | ok a ts' => rw [hm] at h; exact hk a ts' hm h
 | err ts' e => rw [hm] at h; exact he ts' e h
theorem RP.pk {K : Out → Objs → Prop} {ob : Objs} {p : Nat} {en : Int} {S : V} {v : β → V} (h : RP Z E ((m >>= f) ts)) (he : ∀ ts' e,E ts' e → K (.panic (.d (Vl en ts' e))) (setO ob p (pb ts' en S)))
  (hk : ∀ a ts',m ts = .ok a ts' → RP Z E (f a ts') → K (.ret (v a)) (setO ob p (pb ts' en S))) : PK K ob p en S v (m ts) := by
 rw [Xi] at h
 cases hm : m ts with
 | ok a ts' => rw [hm] at h; exact hk a ts' hm h
 | err ts' e => rw [hm] at h; exact he ts' e h
end
theorem Ya9 {α : Type} (m : M α) : (m >>= fun l => pure l) = m := by
 funext ts
 rw [Xi]
 cases m ts <;> rfl
theorem Xzu {α β : Type} (c : List Tok → Bool) (a b : M α) (f : α → M β) : (ifM c a b >>= f) = ifM c (a >>= f) (b >>= f) := by
 funext ts
 simp only [Xi,Go.Sx.ifM]
 by_cases h : c ts = true <;> simp [h]
def EP (K : Out → Objs → Prop) (ob : Objs) (p : Nat) (en : Int) (S : V) (ts : List Tok) (e : Int) : Prop := K (.panic (.d (Vl en ts e))) (setO ob p (pb ts en S))
def PF (K : Out → Objs → Prop) (ob : Objs) (p : Nat) (en : Int) (S : V) : R RForm → Prop :=
 RP (fun f ts => ∀ N v ids,News (fresh ob) N → ids.Nodup → (∀ j ∈ ids,j ∈ Xc N) → Zp N f v ids → K (.ret v) (N ++ setO ob p (pb ts en S))) (EP K ob p en S)
def ZL (K : Out → Objs → Prop) (ob : Objs) (p : Nat) (en : Int) (S : V) : List RForm → List Tok → Prop
 | [],ts => K (.ret (.d (.list 14 []))) (setO ob p (pb ts en S))
 | f :: r,ts => ∀ N id vs ids,News (fresh ob) N → (id :: ids).Nodup → (∀ j ∈ id :: ids,j ∈ Xc N) → lookO N id = some (Xt vs) → Za N (f :: r) vs ids → K (.ret (.sl id vs.length)) (N ++ setO ob p (pb ts en S))
def PL (K : Out → Objs → Prop) (ob : Objs) (p : Nat) (en : Int) (S : V) : R (List RForm) → Prop := RP (ZL K ob p en S) (EP K ob p en S)
def Xzn (c : Nat) : Ob := .map [(.str X76,.fn 59 [] [.ptr c []]),(.str X3q,.fn 61 [] [.ptr c []]),(.str Q5,.fn 62 [] [.ptr c []]),(.str Xxb,.fn 64 [] [.ptr c []])]
structure Ctx (ob : Objs) (p m c : Nat) : Prop where
 map : lookO ob m = some (Xzn c)
 cap : lookO ob c = some (.box 87 (.ptr p []))
 pm : p ≠ m
 pc : p ≠ c
theorem Ctx.set {ob : Objs} {p m c : Nat} {o : Ob} (h : Ctx ob p m c) (hp : ∃ y,lookO ob p = some y) : Ctx (setO ob p o) p m c :=
 ⟨by rw [Xh ob p m hp,if_neg (Ne.symm h.pm)]; exact h.map,by rw [Xh ob p c hp,if_neg (Ne.symm h.pc)]; exact h.cap,h.pm,h.pc⟩
theorem Ctx.cons {ob : Objs} {p m c j : Nat} {o : Ob} (h : Ctx ob p m c) (hj : fresh ob ≤ j) : Ctx ((j,o) :: ob) p m c := by
 have h1 := Xu h.map
 have h2 := Xu h.cap
 exact ⟨by rw [Xn _ _ _ _ (by simp; omega)]; exact h.map,by rw [Xn _ _ _ _ (by simp; omega)]; exact h.cap,h.pm,h.pc⟩
theorem Ctx.app {N ob : Objs} {p m c : Nat} (h : Ctx ob p m c) (hN : ∀ j ∈ Xc N,fresh ob ≤ j) : Ctx (N ++ ob) p m c := by
 have h1 := Xu h.map
 have h2 := Xu h.cap
 exact ⟨by rw [Yf (fun e => by have := hN _ e; omega)]; exact h.map,by rw [Yf (fun e => by have := hN _ e; omega)]; exact h.cap,h.pm,h.pc⟩
theorem Qq {q : Nat → Bool} {N ob : Objs} (h : ∀ j ∈ Xc N,q j = true) : Xw q (N ++ ob) = Xw q ob := by
 induction N with
 | nil => rfl
 | cons x r ih =>
  obtain ⟨i,o'⟩ := x
  simp only [List.cons_append,Xw]
  rw [if_pos (h i (by simp [Xc])),ih (fun j hj => h j (by simp only [Xc,List.map_cons,List.mem_cons]; exact .inr hj))]
theorem Xtz {ob : Objs} {p : Nat} {ts ts' : List Tok} {en : Int} {S : V} (hp : lookO ob p = some (pb ts en S)) (hm : ∀ kp,noMenO (young (fresh ob) kp) ob = true) {K : Objs → Prop} {N M : Objs} {v : V} (hN : News (fresh ob) N) (hM : ∀ j ∈ Xc M,fresh ob ≤ j ∧ j ∉ Xc N)
  (hv : ∀ q : Nat → Bool,(∀ j ∈ Xc N,q j = false) → V.men q v = false) (h : K (N ++ setO ob p (pb ts' en S))) : Xv (fresh ob) K [v] (N ++ (M ++ setO ob p (pb ts' en S))) := by
 have hq : ∀ j ∈ Xc N,young (fresh ob) (Xc N) j = false := fun j hj => by simp [young,hj]
 have hd : Xw (young (fresh ob) (Xc N)) (N ++ (M ++ setO ob p (pb ts' en S))) = N ++ setO ob p (pb ts' en S) := by
  rw [Jn hq,Qq (fun j hj => by have := hM j hj; simp [young,this.1,this.2])]
  rw [X8 (fun j hj => ?_)]
  rw [Ya] at hj
  have := Xz hj
  simp [young]; omega
 refine ⟨Xc N,?_,?_,?_⟩
 ·simp only [V.mens,Bool.or_false]
  exact hv _ hq
 ·rw [hd,Wi,hN.men _ hq]
  exact noMenO_set_box _ _ _ _ _ (hm _) (by have := Wa (hm (Xc N)) hp; simpa [pv] using this)
 ·rw [hd]; exact h
theorem Uc {ob : Objs} {p : Nat} {ts ts' : List Tok} {en : Int} {S : V} (hp : lookO ob p = some (pb ts en S)) (hm : ∀ kp,noMenO (young (fresh ob) kp) ob = true) {K : Objs → Prop} {N M : Objs} {f : RForm} {v : V} {ids : List Nat} (hN : News (fresh ob) N) (hM : ∀ j ∈ Xc M,fresh ob ≤ j ∧ j ∉ Xc N)
  (hin : ∀ j ∈ ids,j ∈ Xc N) (hF : Zp N f v ids) (h : K (N ++ setO ob p (pb ts' en S))) : Xv (fresh ob) K [v] (N ++ (M ++ setO ob p (pb ts' en S))) := by
 have hq : ∀ j ∈ Xc N,young (fresh ob) (Xc N) j = false := fun j hj => by simp [young,hj]
 have hd : Xw (young (fresh ob) (Xc N)) (N ++ (M ++ setO ob p (pb ts' en S))) = N ++ setO ob p (pb ts' en S) := by
  rw [Jn hq,Qq (fun j hj => by have := hM j hj; simp [young,this.1,this.2])]
  rw [X8 (fun j hj => ?_)]
  rw [Ya] at hj
  have := Xz hj
  simp [young]; omega
 refine ⟨Xc N,?_,?_,?_⟩
 ·simp only [V.mens,Bool.or_false]
  exact hF.men (fun j hj => hq j (hin j hj))
 ·rw [hd,Wi,hN.men _ hq]
  exact noMenO_set_box _ _ _ _ _ (hm _) (by have := Wa (hm (Xc N)) hp; simpa [pv] using this)
 ·rw [hd]; exact h
def Xd1 (n : Nat) : M (List RForm) := do Yn [123]; Yu n
def Vc {α : Type} (m : M α) : Prop := ∀ ts a ts',m ts = .ok a ts' → ts'.length ≤ ts.length
theorem Vc.bind {α β : Type} {m : M α} {f : α → M β} (h : Vc m) (hf : ∀ a,Vc (f a)) : Vc (m >>= f) := by
 intro ts b ts' e
 rw [Xi] at e
 cases hm : m ts with
 | err a b => rw [hm] at e; cases e
 | ok a t1 =>
  rw [hm] at e
  exact Nat.le_trans (hf a t1 b ts' e) (h ts a t1 hm)
theorem Vc.pure {α : Type} (a : α) : Vc (Pure.pure a : M α) := by
 intro ts b ts' e; cases e; exact Nat.le_refl _
theorem Vc.take (k : Int) (t : B) : Vc (Ul k t) := by
 intro ts b ts' e
 simp only [Ul] at e
 split at e
 ·cases e; simp
 ·cases e
theorem Vc.accept (k : Int) (t : B) : Vc (Yq k t) := by
 intro ts b ts' e
 simp only [Yq] at e
 split at e <;> cases e <;> simp
theorem Vc.ifM {α : Type} {c : List Tok → Bool} {a b : M α} (ha : Vc a) (hb : Vc b) : Vc (ifM c a b) := by
 intro ts x ts' e
 simp only [Go.Sx.ifM] at e
 split at e
 ·exact ha ts x ts' e
 ·exact hb ts x ts' e
theorem Vc.skip {α : Type} {m : M α} (h : Vc m) : Vc (Xbw m) := by
 intro ts x ts' e
 have := h ts.tail x ts' e
 simp at this; omega
theorem Vc.fail {α : Type} (e : Int) : Vc (Go.Sx.fail e : M α) := by intro ts x ts' h; cases h
theorem Vc.name : Vc Va := .bind (.take _ _) fun _ => .pure _
theorem Vc.word (t : B) : Vc (W6 t) := .bind (.take _ _) fun _ => .pure _
theorem Vc.sign (t : B) : Vc (Yn t) := .bind (.take _ _) fun _ => .pure _
theorem Vc.num : Vc Xm4 := .bind (.take _ _) fun _ => .pure _
theorem Vc.term : Vc Xeb := .ifM (.bind .num fun _ => .pure _) (.bind .name fun _ => .bind (.sign _) fun _ => .bind .name fun _ => .pure _)
theorem Vc.op : Vc opQ := .bind (.accept _ _) fun b => by
 cases b
 ·exact .bind (.accept _ _) fun b => by
   cases b
   ·exact .bind (.sign _) fun _ => .bind (.sign _) fun _ => .pure _
   ·exact .bind (.accept _ _) fun _ => .pure _
 ·exact .pure _
theorem Vc.atom : Vc Xal := .bind .term fun _ => .bind .op fun _ => .bind .term fun _ => .pure _
theorem Vc.forms : ∀ n,Vc (W0 n) ∧ Vc (Yu n)
 | 0 => ⟨by rw [W0]; exact .fail _,by rw [Yu]; exact .fail _⟩
 | n + 1 => by
  obtain ⟨h1,h2⟩ := Vc.forms n
  constructor
  ·rw [W0]
   exact .ifM (.ifM (.skip (.bind (.sign _) fun _ => .bind h2 fun _ => .pure _)) (.ifM (.skip (.bind (.sign _) fun _ => .bind h2 fun _ => .pure _)) (.ifM (.skip (.bind .num fun _ => .bind (.sign _) fun _ => .bind h2 fun _ => .pure _)) (.ifM (.skip (.bind .name fun _ => .pure _)) .atom)))) .atom
  ·rw [Yu]
   exact .bind (.accept _ _) fun b => by
    cases b
    ·exact .bind h1 fun _ => .bind (.sign _) fun _ => .bind h2 fun _ => .pure _
    ·exact .pure _
theorem Qj {k : Int} {t : B} {ts ts' : List Tok} {a : Tok} (h : Ul k t ts = .ok a ts') : ts'.length < ts.length := by
 simp only [Ul] at h
 split at h
 ·rename_i hn
  cases h
  cases ts with
  | nil => simp [Xo] at hn
  | cons x r => simp
 ·cases h
end Go.Sx
/- Contracts: formulas and their Xs are read. Condition: the program is the seat's. -/
namespace Go.Proofs.YtmapdjjigmkbfaaGreatDoor
open Go Go.Ab Go.Lx Go.Sx
set_option maxRecDepth 100000
def Xr4 (P : Prg) (n : Nat) : Prop := ∀ (ts : List Tok),ts.length + 1 ≤ n → ∀ (ob : Objs) (p m c : Nat) (en : Int),lookO ob p = some (pb ts en (.mp m)) → Ctx ob p m c → ∀ K : Out → Objs → Prop,PF K ob p en (.mp m) (W0 n ts) → ACall P 68 [.ptr p []] ob K
def Xht (P : Prg) (n : Nat) : Prop := ∀ (ts : List Tok),ts.length + 1 ≤ n → ∀ (ob : Objs) (p m c : Nat) (en : Int),lookO ob p = some (pb ts en (.mp m)) → Ctx ob p m c → ∀ K : Out → Objs → Prop,PL K ob p en (.mp m) (Xd1 n ts) → ACall P 60 [.ptr p []] ob K
def Qx (vs : List V) : Ob := if vs = [] then .arr 42 14 [] else Xt vs
section
variable {P : Prg} (hP : P.p = Tryz.prog)
include hP
theorem X7c (n : Nat) (hn : n ≤ 1000000) (ih : ∀ m,m < n → Xr4 P m) : Xht P n := by
 intro ts hts ob p m c en hp hc K h
 have hS : V.allD [V.mp m] = none := by simp [V.allD]
 refine acall_lift hP mixed Ylz Yo1 TOk.nil fun _ hm => ?_
 have hlp := Xu hp
 have e1 : (fresh ob == p) = false := by simp; omega
 have ef : ¬ fresh ob + 1 ≤ fresh ob := by omega
 simp only [PL,Xd1,Yn,Y8,Uz] at h
 simp [Yno,hp,hS]
 refine W8 hP hS (ts := ts) (en := en) (S := .mp m) (by simp [hp,e1]) _ _ (RP.pk h (fun ts' e h => ?_) (fun a ts1 ha h => ?_))
 ·simp [e1]
  exact Xp hp hm h (by simp) (by simp [hp])
 have hlt := Qj ha
 simp [X4h,e1]
 let O : Objs → List V → List Tok → Objs := fun N vs ts => N ++ (fresh ob,Qx vs) :: setO ob p (pb ts en (.mp m))
 have hOp : ∀ N vs ts,News (fresh ob + 1) N → lookO (O N vs ts) p = some (pb ts en (.mp m)) := fun N vs ts hN => by
  have : p ∉ Xc N := fun e => by have := hN.ge _ e; omega
  simp only [O]
  rw [Yf this]
  simp [e1,hp]
 have hOi : ∀ N vs ts,News (fresh ob + 1) N → lookO (O N vs ts) (fresh ob) = some (Qx vs) := fun N vs ts hN => by
  have : fresh ob ∉ Xc N := fun e => by have := hN.ge _ e; omega
  simp only [O]
  rw [Yf this]
  simp
 have hOs : ∀ N vs ts ts',News (fresh ob + 1) N → setO (O N vs ts) p (pb ts' en (.mp m)) = O N vs ts' := fun N vs ts ts' hN => by
  have : p ∉ Xc N := fun e => by have := hN.ge _ e; omega
  simp only [O]
  rw [Y6 this]
  simp [e1]
 have hOf : ∀ N vs ts,fresh ob + 1 ≤ fresh (O N vs ts) := fun N vs ts => by
  have := Jt N ((fresh ob,Qx vs) :: setO ob p (pb ts en (.mp m)))
  simp at this
  exact this
 have hOc : ∀ N vs ts,News (fresh ob + 1) N → Ctx (O N vs ts) p m c := fun N vs ts hN => by
  simp only [O]
  refine Ctx.app (Ctx.cons (hc.set ⟨_,hp⟩) (by simp)) (fun j hj => ?_)
  have := hN.ge j hj
  simp; omega
 have drpO : ∀ N o ts,News (fresh ob + 1) N → Xw (young (fresh ob) []) (N ++ (fresh ob,o) :: setO ob p (pb ts en (.mp m))) = setO ob p (pb ts en (.mp m)) := fun N o ts hN => by
  rw [Qq (fun j hj => by have := hN.ge j hj; simp [young]; omega)]
  simp [hp]
 have nom : ∀ ts kp,noMenO (young (fresh ob) kp) (setO ob p (pb ts en (.mp m))) = true := fun ts kp =>
  noMenO_set_box _ _ _ _ _ (hm _) (by have := Wa (hm kp) hp; simpa [pv] using this)
 have nomU : ∀ ts n kp,fresh ob ≤ n → noMenO (young n kp) (setO ob p (pb ts en (.mp m))) = true := fun ts n kp hn =>
  noMenO_set_box _ _ _ _ _ (Zu hm hn) (by have := Wa (Zu (l := kp) hm hn) hp; simpa [pv] using this)
 have lvM : ∀ M ts e,(∀ j ∈ Xc M,fresh ob ≤ j) → EP K ob p en (.mp m) ts e → Xv (fresh ob) (K (.panic (.d (Vl en ts e)))) [.d (Vl en ts e)] (M ++ setO ob p (pb ts en (.mp m))) := fun M ts e hM h => by
  have hd : Xw (young (fresh ob) []) (M ++ setO ob p (pb ts en (.mp m))) = setO ob p (pb ts en (.mp m)) := by
   rw [Qq (fun j hj => by simpa [young] using hM j hj)]
   simp [hp]
  exact ⟨[],by simp,by rw [hd]; exact nom _ _,by rw [hd]; exact h⟩
 have hOk : ∀ N vs ts,Xc (O N vs ts) = Xc N ++ fresh ob :: Xc ob := fun N vs ts => by
  simp only [O]
  rw [Z9]
  simp only [Xc,List.map_cons]
  congr 2
  exact Ya ob p _
 have drp : ∀ N vs ts,News (fresh ob + 1) N → Xw (young (fresh ob) []) (O N vs ts) = setO ob p (pb ts en (.mp m)) := fun N vs ts hN => by
  simp only [O]
  rw [Qq (fun j hj => by have := hN.ge j hj; simp [young]; omega)]
  simp [hp]
 have lvE : ∀ N vs ts e,News (fresh ob + 1) N → EP K ob p en (.mp m) ts e → Xv (fresh ob) (K (.panic (.d (Vl en ts e)))) [.d (Vl en ts e)] (O N vs ts) := fun N vs ts e hN h => by
  refine ⟨[],by simp,?_,?_⟩
  ·rw [drp _ _ _ hN]
   exact noMenO_set_box _ _ _ _ _ (hm _) (by have := Wa (hm []) hp; simpa [pv] using this)
  ·rw [drp _ _ _ hN]; exact h
 refine ALoop.go (ι := List RForm × List Tok × Objs × List V × List Nat × Nat) (fun i => [(0,.ptr p []),(2,.sl (fresh ob) i.2.2.2.1.length)]) (fun i => O i.2.2.1 i.2.2.2.1 i.2.1)
  (fun i => News (fresh ob + 1) i.2.2.1 ∧ i.2.2.2.2.1.Nodup ∧ (∀ j ∈ i.2.2.2.2.1,j ∈ Xc i.2.2.1) ∧ Za i.2.2.1 i.1 i.2.2.2.1 i.2.2.2.2.1 ∧ i.2.1.length + 2 ≤ i.2.2.2.2.2 ∧ i.2.2.2.2.2 ≤ n ∧ i.1.length + i.2.1.length ≤ n ∧ RP (ZL K ob p en (.mp m)) (EP K ob p en (.mp m)) ((Yu i.2.2.2.2.2 >>= fun l => pure (i.1 ++ l)) i.2.1)) (fun i => i.2.1.length)
  ([],ts1,[],[],[],n) ⟨News.nil _,List.nodup_nil,by simp,by rw [Za]; exact ⟨rfl,rfl⟩,by simp only; omega,Nat.le_refl _,by simp only [List.length_nil]; omega,?_⟩ (by simp) (by simp [O,Qx]) ?_
 ·simp only [List.nil_append,Ya9]
  exact h
 rintro ⟨acc,ts2,N,vs,ids,k⟩ ⟨hN,hnd,hin,hL,hk2,hkn,hac,hR⟩ R rn re rr rp
 simp only at hN hnd hin hL hk2 hkn hac hR rn ⊢
 obtain ⟨k,rfl⟩ : ∃ j,k = j + 1 := ⟨k - 1,by omega⟩
 simp only [Yu,Y8] at hR
 simp [X4e]
 refine Xai hP hS (ts := ts2) (en := en) (S := .mp m) (hOp _ _ _ hN) _ _ (RP.pk hR (fun ts' e h => ?_) (fun a ts3 ha3 h => ?_))
 ·simp
  refine rp _ _ _ ?_
  rw [hOs _ _ _ _ hN]
  simp
  exact lvE _ _ _ _ hN h
 have hle3 := Vc.accept _ _ _ _ _ ha3
 cases a with
 | true =>
  simp [Xrw]
  refine re _ _ _ ?_
  rw [hOs _ _ _ _ hN]
  simp only [if_true,Y8,Uz,Z3,Yew,List.append_nil] at h
  cases acc with
  | nil =>
   rw [Za] at hL
   obtain ⟨rfl,rfl⟩ := hL
   have hOid := hOi N [] ts3 hN
   simp [Qx] at hOid
   simp [hOid]
   have hni : fresh ob ∉ Xc N := fun e => by have := hN.ge _ e; omega
   refine ⟨[],by simp,?_,?_⟩
   ·simp only [O]
    rw [Y6 hni]
    simp only [setO,if_true]
    rw [drpO _ _ _ hN]; exact nom _ _
   ·simp only [O]
    rw [Y6 hni]
    simp only [setO,if_true]
    rw [drpO _ _ _ hN]; exact h
  | cons f r =>
   have hvl := hL.len
   have hvn : vs ≠ [] := fun e => by rw [e] at hvl; cases hvl
   have hko : Qx vs = Xt vs := by simp [Qx,hvn]
   have hOid := hOi N vs ts3 hN
   rw [hko] at hOid
   simp [Xt] at hOid
   simp [hOid,Xxh,gvO]
   have hni : fresh ob ∉ Xc N := fun e => by have := hN.ge _ e; omega
   have eO : O N vs ts3 = (N ++ [(fresh ob,Xt vs)]) ++ setO ob p (pb ts3 en (.mp m)) := by simp [O,hko]
   have hkN : Xc (N ++ [(fresh ob,Xt vs)]) = Xc N ++ [fresh ob] := by rw [Z9]; rfl
   have hNN : News (fresh ob) (N ++ [(fresh ob,Xt vs)]) := by
    refine ⟨fun j hj => ?_,fun q hq => ?_⟩
    ·rw [hkN,List.mem_append] at hj
     rcases hj with hj | hj
     ·have := hN.ge j hj; omega
     ·simp at hj; omega
    ·rw [hkN] at hq
     rw [Wi,hN.men q (fun j hj => hq j (by simp [hj]))]
     simp [noMenO,Xt,hL.mens (q := q) (fun j hj => hq j (by simp [hin j hj]))]
   have hyg : ∀ j ∈ Xc (N ++ [(fresh ob,Xt vs)]),young (fresh ob) (Xc (N ++ [(fresh ob,Xt vs)])) j = false := fun j hj => by simp [young,hj]
   have hdd : Xw (young (fresh ob) (Xc (N ++ [(fresh ob,Xt vs)]))) (O N vs ts3) = O N vs ts3 := by
    rw [eO,Jn hyg]
    simp [hp]
   refine ⟨Xc (N ++ [(fresh ob,Xt vs)]),?_,?_,?_⟩
   ·simp [V.mens,V.men,young,hkN]
   ·rw [hdd,eO,Wi,hNN.men _ hyg,nom]; rfl
   ·rw [hdd,eO]
    refine h _ (fresh ob) vs ids hNN ?_ ?_ ?_ ?_
    ·refine List.nodup_cons.2 ⟨fun e => hni (hin _ e),hnd⟩
    ·intro j hj
     rw [hkN]
     rcases List.mem_cons.1 hj with rfl | hj
     ·simp
     ·simp [hin j hj]
    ·rw [Yf hni]; simp
    ·exact hL.look (fun j hj => Ve (hin j hj))
 | false =>
  simp [Xrw,X4g]
  rw [hOs _ _ _ _ hN]
  simp only [Bool.false_eq_true,if_false,Y8,Uz] at h
  refine ih k (by omega) ts3 (by omega) _ p m c en (hOp _ _ _ hN) (hOc _ _ _ hN) _ (RP.bind h (fun ts' e h => ?_) (fun f ts4 ha4 h => ?_))
  ·unfold EP
   simp
   refine rp _ _ _ ?_
   rw [hOs _ _ _ _ hN]
   simp
   exact lvE _ _ _ _ hN h
  ·intro N2 v ids2 hN2 hnd2 hin2 hF
   have hle4 := (Vc.forms k).1 _ _ _ ha4
   rw [hOs _ _ _ _ hN]
   obtain ⟨v1,v2,v3,v4⟩ := hF.fits
   have hfo := hOf N vs ts3
   have hN2' : ∀ j ∈ Xc N2,fresh ob + 1 ≤ j := fun j hj => by have := hN2.ge j hj; omega
   have hi2 : fresh ob ∉ Xc N2 := fun e => by have := hN2' _ e; omega
   have hp2 : p ∉ Xc N2 := fun e => by have := hN2' _ e; omega
   have lk : lookO (N2 ++ O N vs ts4) (fresh ob) = some (Qx vs) := by rw [Yf hi2]; exact hOi _ _ _ hN
   have lkp : lookO (N2 ++ O N vs ts4) p = some (pb ts4 en (.mp m)) := by rw [Yf hp2]; exact hOp _ _ _ hN
   have hfx : fresh ob < fresh (N2 ++ O N vs ts4) := by have := Jt N2 (O N vs ts4); have := hOf N vs ts4; omega
   have e3 : (fresh (N2 ++ O N vs ts4) == fresh ob) = false := by simp; omega
   have e4 : (fresh (N2 ++ O N vs ts4) == p) = false := by simp; omega
   simp
   refine ⟨by simpa [D.shape,D.shapes] using v1,v2,?_⟩
   refine .inl ⟨_,[v],by simp; rfl,by simp,by simp [v3],?_⟩
   have hvl := hL.len
   have hkv : Qx (vs ++ [v]) = Xt (vs ++ [v]) := by simp [Qx]
   have hni : fresh ob ∉ Xc N := fun e => by have := hN.ge _ e; omega
   have hsx : ∀ o,setO ((fresh (N2 ++ O N vs ts4),o) :: (N2 ++ O N vs ts4)) (fresh ob) (Xt (vs ++ [v])) = (fresh (N2 ++ O N vs ts4),o) :: (N2 ++ O N (vs ++ [v]) ts4) := fun o => by
    rw [Yo _ _ _ _ _ e3,Y6 hi2]
    simp only [O]
    rw [Y6 hni]
    simp only [setO,if_true,hkv]
   have hge : fresh (O N vs ts2) ≤ fresh (N2 ++ O N vs ts4) := by
    have h1 := Jt N2 (O N vs ts4)
    have h2 : fresh (O N vs ts2) = fresh (O N vs ts4) := by rw [← hOs N vs ts4 ts2 hN]; simp
    omega
   have hf23 : fresh (O N vs ts3) = fresh (O N vs ts2) := by rw [← hOs N vs ts2 ts3 hN]; simp
   have hNlt : ∀ j ∈ Xc N,j < fresh (O N vs ts2) := fun j hj => Xz (by rw [hOk]; simp [hj])
   have nx : Zc P [] Xg2 (Zs 1 R) [(0,.ptr p []),(2,.sl (fresh ob) (vs.length + 1))] ((fresh (N2 ++ O N vs ts4),.vec 42 14 [v]) :: (N2 ++ O N (vs ++ [v]) ts4)) := by
    generalize hx : fresh (N2 ++ O N vs ts4) = x at *
    have lkp4 : lookO ((x,.vec 42 14 [v]) :: (N2 ++ O N (vs ++ [v]) ts4)) p = some (pb ts4 en (.mp m)) := by
     rw [Xn _ _ _ _ e4,Yf hp2]; exact hOp _ _ _ hN
    simp [X4f]
    simp only [Yn,Y8,Uz] at h
    refine W8 hP hS (ts := ts4) (en := en) (S := .mp m) lkp4 _ _ (RP.pk h (fun ts' e h => ?_) (fun a5 ts5 ha5 h => ?_))
    ·simp
     refine rp _ _ _ ?_
     simp
     rw [Yo _ _ _ _ _ e4,Y6 hp2,hOs _ _ _ _ hN]
     have e5 : (x,Ob.vec 42 14 [v]) :: (N2 ++ O N (vs ++ [v]) ts') = ((x,.vec 42 14 [v]) :: (N2 ++ (N ++ [(fresh ob,Qx (vs ++ [v]))]))) ++ setO ob p (pb ts' en (.mp m)) := by simp [O]
     rw [e5]
     refine lvM _ _ _ (fun j hj => ?_) h
     simp only [Xc,List.map_cons,List.map_append,List.mem_cons,List.mem_append,List.map_nil,List.not_mem_nil,or_false] at hj
     rcases hj with rfl | hj | hj | rfl
     ·omega
     ·have := hN2' j hj; omega
     ·have := hN.ge j hj; omega
     ·omega
    ·have hlt5 := Qj ha5
     simp
     rw [Yo _ _ _ _ _ e4,Y6 hp2,hOs _ _ _ _ hN]
     have hdis : ∀ j ∈ Xc N,j ∉ Xc N2 := fun j hj hj2 => by have h1 := hNlt j hj; have h2 := hN2.ge j hj2; omega
     have hLn : Za (N2 ++ N) (acc ++ [f]) (vs ++ [v]) (ids ++ ids2) := (hL.look (fun j hj => Yf (hdis j (hin j hj)))).snoc (hF.look (fun j hj => Ve (hin2 j hj)))
     have hq2 : ∀ j ∈ Xc N2,young (fresh (O N vs ts2)) (Xc N2) j = false := fun j hj => by simp [young,hj]
     have hqN : ∀ j ∈ Xc N,young (fresh (O N vs ts2)) (Xc N2) j = false := fun j hj => by have := hNlt j hj; simp [young]; omega
     refine rn (Xc N2) (acc ++ [f],ts5,N2 ++ N,vs ++ [v],ids ++ ids2,k) _ _ ⟨(hN2.le (by omega)).app hN,?_,?_,hLn,by simp only; omega,by simp only; omega,by simp only [List.length_append,List.length_cons,List.length_nil]; omega,?_⟩ (by simp only; omega) (by simp) ?_ ?_ ?_
     ·rw [List.nodup_append]
      exact ⟨hnd,hnd2,fun a ha b hb e => by subst e; exact hdis a (hin a ha) (hin2 a hb)⟩
     ·intro j hj
      rw [Z9]
      simp only [List.mem_append] at hj ⊢
      exact hj.elim (fun h => .inr (hin j h)) (fun h => .inl (hin2 j h))
     ·simpa [List.append_assoc] using h
     ·have hyx : young (fresh (O N vs ts2)) (Xc N2) x = true := by
       have : x ∉ Xc N2 := fun e => by have := Xz (ob := N2 ++ O N vs ts4) (by rw [Z9]; exact List.mem_append_left _ e); omega
       simp [young,this]; omega
      simp only [Xw,hyx,if_true]
      rw [Jn hq2,X8 (fun j hj => ?_)]
      ·simp [O]
      ·rw [hOk] at hj
       have : j < fresh (O N vs ts2) := Xz (by rw [hOk]; exact hj)
       simp [young]; omega
     ·have := hOf N vs ts2
      simp [young]; omega
     ·have e6 : O (N2 ++ N) (vs ++ [v]) ts5 = N2 ++ (N ++ (fresh ob,Qx (vs ++ [v])) :: setO ob p (pb ts5 en (.mp m))) := by simp [O]
      rw [e6,Wi,Wi,hN2.men _ hq2,hN.men _ hqN,hkv]
      have := hOf N vs ts2
      simp only [noMenO,Xt,Bool.true_and]
      rw [nomU _ _ _ (by omega),hLn.mens (fun j hj => ?_)]
      ·rfl
      ·simp only [List.mem_append] at hj
       exact hj.elim (fun h => hqN j (hin j h)) (fun h => hq2 j (hin2 j h))
   by_cases hvs : vs = []
   ·have hko : Qx vs = .arr 42 14 [] := by simp [Qx,hvs]
    rw [hko] at lk
    have hkk : Xt (vs ++ [v]) = .vec 42 14 [v] := by simp [Xt,hvs]
    rw [hkk] at hsx
    have h0 : vs.length = 0 := by rw [hvs]; rfl
    rw [h0] at nx
    simp only [Xn _ _ _ _ e3,lk,Xsc,List.length_cons,List.length_nil,List.map_nil,List.nil_append,hsx,h0]
    exact ⟨trivial,trivial,trivial,by omega,nx⟩
   ·have hko : Qx vs = .vec 42 14 vs := by simp [Qx,hvs,Xt]
    rw [hko] at lk
    simp only [Xt] at hsx
    simp only [Xn _ _ _ _ e3,lk,Xsd,List.length_cons,List.length_nil,hsx]
    exact ⟨trivial,trivial,trivial,by omega,nx⟩
end
end Go.Proofs.YtmapdjjigmkbfaaGreatDoor
/- Contracts: the readers of formulas by their first words. Condition: the program is the seat's. -/
namespace Go.Proofs.YtmapdjjigmkbfaaGreatDoor
open Go Go.Ab Go.Lx Go.Sx
set_option maxRecDepth 100000
section
variable {P : Prg} (hP : P.p = Tryz.prog)
include hP
def X1a (P : Prg) (g : Nat) (op : Int) (n : Nat) : Prop := ∀ (ts : List Tok),ts.length + 1 ≤ n → ∀ (ob : Objs) (p m c : Nat) (en : Int),lookO ob p = some (pb ts en (.mp m)) → Ctx ob p m c → ∀ K : Out → Objs → Prop,PF K ob p en (.mp m) ((Xd1 n >>= fun l => pure (.mk op 0 l Yt)) ts) → ACall P g [.ptr c []] ob K
theorem X81 (n : Nat) (hk : Xht P n) : X1a P 59 1 n := by
 intro ts hts ob p m c en hp hc K h
 refine acall_lift hP mixed Yly Yo0 TOk.nil fun _ hm => ?_
 have hlp := Xu hp
 have hlc := Xu hc.cap
 have e1 : (fresh ob == p) = false := by simp; omega
 have e2 : (fresh ob == c) = false := by simp; omega
 have hcap := hc.cap
 simp [Ynn,hcap,e2]
 unfold PF at h
 refine hk ts hts _ p m c en (by rw [Xn _ _ _ _ e1]; exact hp) (hc.cons (Nat.le_refl _)) _ (RP.bind h (fun ts' e h => ?_) (fun l ts1 hl h => ?_))
 ·unfold EP
  simp [e1]
  exact Xp hp hm h (by simp) (by simp [hp])
 cases l with
 | nil =>
  simp only [ZL]
  simp [e1]
  have hF : Zp [] (.mk 1 0 [] Yt) (.d (.agg [iD 1,iD 0,.list 14 [],Yt.enc])) [] := by rw [Zp]; exact ⟨⟨_,.inr rfl,rfl⟩,rfl⟩
  exact Uc hp hm (N := []) (M := [(_,_)]) (News.nil _) (by simp [Xc]) (by simp) hF (h [] _ [] (News.nil _) List.nodup_nil (by simp) hF)
 | cons f r =>
  intro N id vs ids hN hnd hin hlk hL
  have hN1 : ∀ j ∈ Xc N,fresh ob + 1 ≤ j := fun j hj => by have := hN.ge j hj; simp at this; omega
  have ht : fresh ob ∉ Xc N := fun e => by have := hN1 _ e; omega
  have hset : ∀ o o' Y,setO (N ++ (fresh ob,o) :: Y) (fresh ob) o' = N ++ (fresh ob,o') :: Y := fun o o' Y => by rw [Y6 ht]; simp [setO]
  have hlt : ∀ o Y,lookO (N ++ (fresh ob,o) :: Y) (fresh ob) = some o := fun o Y => by rw [Yf ht]; simp
  have hid : ∀ Y,lookO (N ++ Y) id = some (.vec 42 14 vs) := fun Y => by rw [Ve (hin id (by simp))]; exact hlk
  rw [Yo _ _ _ _ _ e1]
  simp [hset,hlt,hid,V.allD,Xxh,gvO,Xhv]
  have hF : Zp N (.mk 1 0 (f :: r) Yt) (.agg [.d (iD 1),.d (iD 0),.sl id vs.length,.d Yt.enc]) (id :: ids) := (Vq (by simp)).2 ⟨id,vs,ids,rfl,rfl,hlk,hL⟩
  have hN0 : News (fresh ob) N := hN.le (by simp)
  exact Uc hp hm (M := [(_,_)]) hN0 (by simp [Xc]; exact fun x hx => ht (by simp only [Xc,List.mem_map]; exact ⟨_,hx,rfl⟩)) hin hF (h N _ (id :: ids) hN0 hnd hin hF)
theorem X82 (n : Nat) (hk : Xht P n) : X1a P 61 2 n := by
 intro ts hts ob p m c en hp hc K h
 refine acall_lift hP mixed Yl0 Yo2 TOk.nil fun _ hm => ?_
 have hlp := Xu hp
 have hlc := Xu hc.cap
 have e1 : (fresh ob == p) = false := by simp; omega
 have e2 : (fresh ob == c) = false := by simp; omega
 have hcap := hc.cap
 simp [Ynp,hcap,e2]
 unfold PF at h
 refine hk ts hts _ p m c en (by rw [Xn _ _ _ _ e1]; exact hp) (hc.cons (Nat.le_refl _)) _ (RP.bind h (fun ts' e h => ?_) (fun l ts1 hl h => ?_))
 ·unfold EP
  simp [e1]
  exact Xp hp hm h (by simp) (by simp [hp])
 cases l with
 | nil =>
  simp only [ZL]
  simp [e1]
  have hF : Zp [] (.mk 2 0 [] Yt) (.d (.agg [iD 2,iD 0,.list 14 [],Yt.enc])) [] := by rw [Zp]; exact ⟨⟨_,.inr rfl,rfl⟩,rfl⟩
  exact Uc hp hm (N := []) (M := [(_,_)]) (News.nil _) (by simp [Xc]) (by simp) hF (h [] _ [] (News.nil _) List.nodup_nil (by simp) hF)
 | cons f r =>
  intro N id vs ids hN hnd hin hlk hL
  have hN1 : ∀ j ∈ Xc N,fresh ob + 1 ≤ j := fun j hj => by have := hN.ge j hj; simp at this; omega
  have ht : fresh ob ∉ Xc N := fun e => by have := hN1 _ e; omega
  have hset : ∀ o o' Y,setO (N ++ (fresh ob,o) :: Y) (fresh ob) o' = N ++ (fresh ob,o') :: Y := fun o o' Y => by rw [Y6 ht]; simp [setO]
  have hlt : ∀ o Y,lookO (N ++ (fresh ob,o) :: Y) (fresh ob) = some o := fun o Y => by rw [Yf ht]; simp
  have hid : ∀ Y,lookO (N ++ Y) id = some (.vec 42 14 vs) := fun Y => by rw [Ve (hin id (by simp))]; exact hlk
  rw [Yo _ _ _ _ _ e1]
  simp [hset,hlt,hid,V.allD,Xxh,gvO,Xhv]
  have hF : Zp N (.mk 2 0 (f :: r) Yt) (.agg [.d (iD 2),.d (iD 0),.sl id vs.length,.d Yt.enc]) (id :: ids) := (Vq (by simp)).2 ⟨id,vs,ids,rfl,rfl,hlk,hL⟩
  have hN0 : News (fresh ob) N := hN.le (by simp)
  exact Uc hp hm (M := [(_,_)]) hN0 (by simp [Xc]; exact fun x hx => ht (by simp only [Xc,List.mem_map]; exact ⟨_,hx,rfl⟩)) hin hF (h N _ (id :: ids) hN0 hnd hin hF)
theorem X0b (n : Nat) (hk : Xht P n) (ts : List Tok) (hts : ts.length + 1 ≤ n) {ob : Objs} {p m c : Nat} {en : Int} (hp : lookO ob p = some (pb ts en (.mp m))) (hc : Ctx ob p m c) {K : Out → Objs → Prop} (h : PF K ob p en (.mp m) ((Xm4 >>= fun k => Xd1 n >>= fun l => pure (.mk 3 k l Yt)) ts)) : ACall P 62 [.ptr c []] ob K := by
 refine acall_lift hP mixed Yl1 Yo3 TOk.nil fun _ hm => ?_
 have hlp := Xu hp
 have hlc := Xu hc.cap
 have e1 : (fresh ob == p) = false := by simp; omega
 have e2 : (fresh ob == c) = false := by simp; omega
 have hcap := hc.cap
 simp [Ynq,hcap,e2]
 unfold PF at h
 have hS : V.allD [V.mp m] = none := by simp [V.allD]
 simp only [Xm4,Y8,Uz] at h
 refine W8 hP hS (ts := ts) (en := en) (S := .mp m) (by rw [Xn _ _ _ _ e1]; exact hp) _ _ (RP.pk h (fun ts' e h => ?_) (fun a ts0 ha h => ?_))
 ·simp [e1]
  exact Xp hp hm h (by simp) (by simp [hp])
 have hlt0 := Qj ha
 obtain ⟨a1,a2,k0,a4⟩ := a
 simp only at h
 have hcap' : lookO (setO ob p (pb ts0 en (.mp m))) c = some (.box 87 (.ptr p [])) := (hc.set (o := pb ts0 en (.mp m)) ⟨_,hp⟩).cap
 simp [X4i,e1,e2,Tok.enc,hcap']
 refine hk ts0 (by omega) _ p m c en (by rw [Xn _ _ _ _ e1]; simp [hp]) ((hc.set ⟨_,hp⟩).cons (by simp)) _ (RP.bind h (fun ts' e h => ?_) (fun l ts1 hl h => ?_))
 ·unfold EP
  simp [e1]
  exact Xp hp hm h (by simp) (by simp [hp])
 cases l with
 | nil =>
  simp only [ZL]
  simp [e1]
  have hF : Zp [] (.mk 3 k0 [] Yt) (.d (.agg [iD 3,iD k0,.list 14 [],Yt.enc])) [] := by rw [Zp]; exact ⟨⟨_,.inr rfl,rfl⟩,rfl⟩
  exact Uc hp hm (N := []) (M := [(_,_)]) (News.nil _) (by simp [Xc]) (by simp) hF (h [] _ [] (News.nil _) List.nodup_nil (by simp) hF)
 | cons f r =>
  intro N id vs ids hN hnd hin hlk hL
  have hN1 : ∀ j ∈ Xc N,fresh ob + 1 ≤ j := fun j hj => by have := hN.ge j hj; simp at this; omega
  have ht : fresh ob ∉ Xc N := fun e => by have := hN1 _ e; omega
  have hset : ∀ o o' Y,setO (N ++ (fresh ob,o) :: Y) (fresh ob) o' = N ++ (fresh ob,o') :: Y := fun o o' Y => by rw [Y6 ht]; simp [setO]
  have hlt : ∀ o Y,lookO (N ++ (fresh ob,o) :: Y) (fresh ob) = some o := fun o Y => by rw [Yf ht]; simp
  have hid : ∀ Y,lookO (N ++ Y) id = some (.vec 42 14 vs) := fun Y => by rw [Ve (hin id (by simp))]; exact hlk
  rw [Yo _ _ _ _ _ e1,Xae]
  simp [hset,hlt,hid,V.allD,Xxh,gvO,Xhv]
  have hF : Zp N (.mk 3 k0 (f :: r) Yt) (.agg [.d (iD 3),.d (iD k0),.sl id vs.length,.d Yt.enc]) (id :: ids) := (Vq (by simp)).2 ⟨id,vs,ids,rfl,rfl,hlk,hL⟩
  have hN0 : News (fresh ob) N := hN.le (by simp)
  exact Uc hp hm (M := [(_,_)]) hN0 (by simp [Xc]; exact fun x hx => ht (by simp only [Xc,List.mem_map]; exact ⟨_,hx,rfl⟩)) hin hF (h N _ (id :: ids) hN0 hnd hin hF)
theorem X9v {ts : List Tok} {ob : Objs} {p m c : Nat} {en : Int} (hp : lookO ob p = some (pb ts en (.mp m))) (hc : Ctx ob p m c) {K : Out → Objs → Prop} (h : PF K ob p en (.mp m) (Xzo ts)) : ACall P 64 [.ptr c []] ob K := by
 refine acall_lift hP mixed Yl3 Yo5 TOk.nil fun _ hm => ?_
 have hlp := Xu hp
 have hlc := Xu hc.cap
 have hS : V.allD [V.mp m] = none := by simp [V.allD]
 have e1 : (fresh ob == p) = false := by simp; omega
 have e2 : (fresh ob == c) = false := by simp; omega
 have e3 : (fresh ob + 1 == p) = false := by simp; omega
 have e4 : (fresh ob + 1 == c) = false := by simp; omega
 have hcap := hc.cap
 simp [Yns,hcap,e2,e4]
 unfold PF Xzo at h
 refine Xdr hP hS (ts := ts) (en := en) (by simp [hp,e1,e3]) (RP.pk h (fun ts' e h => ?_) (fun a ts0 ha h => ?_))
 ·simp [e1,e3]
  exact Xp hp hm h (by simp) (by simp [hp])
 simp [X4l,e1,e3]
 have hF : Zp [] (.mk 4 0 [] ⟨0,⟨a,[],0,0,0⟩,Xq0⟩) (.d (.agg [iD 4,iD 0,.nils,RAtom.enc ⟨0,⟨a,[],0,0,0⟩,Xq0⟩])) [] := by rw [Zp]; exact ⟨⟨_,.inl rfl,rfl⟩,rfl⟩
 exact Uc hp hm (N := []) (M := [(_,_),(_,_)]) (News.nil _) (by simp [Xc]) (by simp) hF (h [] _ [] (News.nil _) List.nodup_nil (by simp) hF)
end
end Go.Proofs.YtmapdjjigmkbfaaGreatDoor
/- Contract: a formula is read. Condition: the program is the seat's. -/
namespace Go.Proofs.YtmapdjjigmkbfaaGreatDoor
open Go Go.Ab Go.Lx Go.Sx
set_option maxRecDepth 100000
section
variable {P : Prg} (hP : P.p = Tryz.prog)
include hP
theorem Qo : Xf P.p 59 = true ∧ Xf P.p 61 = true ∧ Xf P.p 62 = true ∧ Xf P.p 64 = true := by
 rw [hP]; exact ⟨by kernel_rfl,by kernel_rfl,by kernel_rfl,by kernel_rfl⟩
theorem X7x (n : Nat) (hk : Xht P n) : Xr4 P (n + 1) := by
 intro ts hts ob p m c en hp hc K h
 refine acall_lift hP mixed Yl6 Yo8 TOk.nil fun _ hm => ?_
 have hlp := Xu hp
 have hlm := Xu hc.map
 have hS : V.allD [V.mp m] = none := by simp [V.allD]
 have e1 : (fresh ob == p) = false := by simp; omega
 have e2 : (fresh ob == m) = false := by simp; omega
 simp [Ynv]
 unfold PF at h
 rw [W0] at h
 have atm : RP (fun f ts => ∀ N v ids,News (fresh ob) N → ids.Nodup → (∀ j ∈ ids,j ∈ Xc N) → Zp N f v ids → K (.ret v) (N ++ setO ob p (pb ts en (.mp m)))) (EP K ob p en (.mp m)) (Xal ts) → ∀ rest,Zc P [] Xg3 (V6 (fresh ob) [.c 2 14 true] K) ((0,.ptr p []) :: (2,.ptr (fresh ob) []) :: rest) ((fresh ob,.box 42 (.d (.agg [iD 0,iD 0,.nils,.agg [iD 0,.agg [.str [],.str [],iD 0,iD 0,iD 0],.agg [.str [],.str [],iD 0,iD 0,iD 0]]]))) :: setO ob p (pb ts en (.mp m))) := by
  intro h rest
  have cm : ∀ ts' o,lookO ((fresh ob,o) :: setO ob p (pb ts' en (.mp m))) p = some (pb ts' en (.mp m)) := fun ts' o => by simp [hp,e1]
  have er : ∀ ts' e o,EP K ob p en (.mp m) ts' e → Xv (fresh ob) (K (.panic (.d (Vl en ts' e)))) [.d (Vl en ts' e)] ((fresh ob,o) :: setO ob p (pb ts' en (.mp m))) := fun ts' e o h => Xp hp hm h (by simp) (by simp [hp])
  unfold Xal at h
  simp [X4r]
  refine X3s hP hS (cm _ _) (RP.pk h (fun ts' e h => ?_) (fun a ts1 ha h => ?_))
  ·simp [e1]
   exact er _ _ _ h
  simp [X4q,e1,RTerm.enc]
  refine Yp2 hP hS (cm _ _) (RP.pk h (fun ts' e h => ?_) (fun o ts2 ho h => ?_))
  ·simp [e1]
   exact er _ _ _ h
  simp [X4p,e1]
  refine X3s hP hS (cm _ _) (RP.pk h (fun ts' e h => ?_) (fun b ts3 hb h => ?_))
  ·simp [e1]
   exact er _ _ _ h
  simp [X4o,e1,RTerm.enc]
  have hF : Zp [] (.mk 5 0 [] ⟨o,a,b⟩) (.d (.agg [iD 5,iD 0,.nils,RAtom.enc ⟨o,a,b⟩])) [] := by rw [Zp]; exact ⟨⟨_,.inl rfl,rfl⟩,rfl⟩
  exact Uc hp hm (N := []) (M := [(_,_)]) (News.nil _) (by simp [Xc]) (by simp) hF (h [] _ [] (News.nil _) List.nodup_nil (by simp) hF)
 refine Xjz hP hS (ts := ts) (en := en) (S := .mp m) (by simp [hp,e1]) _ _ ?_
 simp [e1]
 cases hn1 : Xo 1 [] ts with
 | false =>
  have hrb : Xd4 ts = false := by simp [Xd4,hn1]
  simp only [Go.Sx.ifM,hrb,Bool.false_eq_true,if_false] at h
  simp [Xj9]
  exact atm h _
 | true =>
  simp
  refine Xxd hP hS (ts := ts) (en := en) (S := .mp m) (by simp [hp,e1]) _ _ ?_
  cases hd : Xo 3 [46] ts.tail with
  | true =>
   have hrb : Xd4 ts = false := by simp [Xd4,hn1,Xs2,hd]
   simp only [Go.Sx.ifM,hrb,Bool.false_eq_true,if_false] at h
   simp [Xj9,e1]
   exact atm h _
  | false =>
   have hrb : Xd4 ts = true := by simp [Xd4,hn1,Xs2,hd]
   obtain ⟨x,r,rfl⟩ : ∃ x r,ts = x :: r := by
    cases ts with
    | nil => simp [Xo] at hn1
    | cons x r => exact ⟨x,r,rfl⟩
   have hmp : lookO (setO ob p (pb (x :: r) en (.mp m))) m = some (Xzn c) := (hc.set ⟨_,hp⟩).map
   unfold Xzn at hmp
   simp only [Go.Sx.ifM,hrb,if_true,Up,List.headD_cons] at h
   simp [Xj9,e1,hp,e2,hmp,Tok.enc]
   let b0 : Ob := .box 42 (.d (.agg [iD 0,iD 0,.nils,.agg [iD 0,.agg [.str [],.str [],iD 0,iD 0,iD 0],.agg [.str [],.str [],iD 0,iD 0,iD 0]]]))
   have hS1 : Ob.box 90 (mkO [V.d (D.list 4 (List.map Tok.enc r)),V.d (D.int IntKind.i64 en),V.mp m] (Xbs (D.list 4 (List.map Tok.enc r)) (Xbs (D.int IntKind.i64 en) (V.allD [V.mp m])))) = pb r en (.mp m) := by simp [V.allD]
   have fin : ∀ (f : RForm) (ts3 : List Tok),(∀ N v ids,News (fresh ob) N → ids.Nodup → (∀ j ∈ ids,j ∈ Xc N) → Zp N f v ids → K (.ret v) (N ++ setO ob p (pb ts3 en (.mp m)))) → ∀ N v ids,News (fresh ob + 1) N → ids.Nodup → (∀ j ∈ ids,j ∈ Xc N) → Zp N f v ids →
     stKo (N ++ (fresh ob,b0) :: setO ob p (pb ts3 en (.mp m))) (fresh ob) [] 14 v (fun v ob' => Xfx 14 true (fun v => gvO v ob' (fun v' ob' => Xv (fresh ob) (K (Out.ret v')) [v'] ob') (V.giv ob' v)) (atB [] (lookO ob' (fresh ob)))) (lookO (N ++ (fresh ob,b0) :: setO ob p (pb ts3 en (.mp m))) (fresh ob)) := by
    intro f ts3 h N v ids hN hnd hin hF
    have ht : fresh ob ∉ Xc N := fun e => by have := hN.ge _ e; omega
    have hset : ∀ o o' Y,setO (N ++ (fresh ob,o) :: Y) (fresh ob) o' = N ++ (fresh ob,o') :: Y := fun o o' Y => by rw [Y6 ht]; simp [setO]
    have hlt : ∀ o Y,lookO (N ++ (fresh ob,o) :: Y) (fresh ob) = some o := fun o Y => by rw [Yf ht]; simp
    obtain ⟨v1,v2,v3,v4⟩ := hF.fits
    have hN0 : News (fresh ob) N := hN.le (by simp)
    have hM : ∀ o,∀ j ∈ Xc [(fresh ob,o)],fresh ob ≤ j ∧ j ∉ Xc N := fun o j hj => by
     simp [Xc] at hj
     subst hj
     exact ⟨Nat.le_refl _,ht⟩
    have h2 := h N v ids hN0 hnd hin hF
    have lv := Uc hp hm (M := [(fresh ob,.box 42 v)]) hN0 (hM _) hin hF h2
    obtain ⟨op,k0,ks,a0⟩ := f
    cases ks with
    | nil =>
     rw [Zp] at hF
     obtain ⟨⟨z,hz,rfl⟩,_⟩ := hF
     simp at v1
     simp [hset,hlt,v1,b0]
     exact lv
    | cons f1 r1 =>
     have hF0 := hF
     rw [Zp] at hF
     obtain ⟨id,vs,is,rfl,rfl,hl,_⟩ := hF
     have hid : ∀ Y,lookO (N ++ Y) id = some (.vec 42 14 vs) := fun Y => by rw [Ve (hin id (by simp))]; exact hl
     simp [hset,hlt,hid,b0,Xxh,gvO,Xhv]
     exact lv
   rw [hS1]
   have hl1 : lookO ((fresh ob,b0) :: setO ob p (pb r en (.mp m))) p = some (pb r en (.mp m)) := by simp [e1,hp]
   have hc1 : Ctx ((fresh ob,b0) :: setO ob p (pb r en (.mp m))) p m c := (hc.set ⟨_,hp⟩).cons (by simp)
   have hf1 : fresh ((fresh ob,b0) :: setO ob p (pb r en (.mp m))) = fresh ob + 1 := by simp
   have hs1 : ∀ ts',setO ((fresh ob,b0) :: setO ob p (pb r en (.mp m))) p (pb ts' en (.mp m)) = (fresh ob,b0) :: setO ob p (pb ts' en (.mp m)) := fun ts' => by simp [e1]
   have hlr : r.length + 1 ≤ n := by simp at hts; omega
   by_cases w1 : x.text = X76
   ·simp only [w1,decide_true,if_true,Xbw,List.tail_cons] at h
    simp [w1]
    refine ⟨(Qo hP).1,?_⟩
    have ek : ∀ g : List RForm → M RForm,(Xd1 n >>= g) = (Yn [123] >>= fun _ => Yu n >>= g) := fun g => by rw [Xd1,Y8]
    rw [← ek] at h
    refine X81 hP n hk r hlr _ p m c en hl1 hc1 _ (RP.mono h (fun ts' e h => ?_) (fun f ts3 h => ?_))
    ·unfold EP
     rw [hs1]
     simp
     exact Xp hp hm h (by simp) (by simp [hp])
    ·intro N v ids hN hnd hin hF
     rw [hf1] at hN
     rw [hs1]
     simp
     exact fin f ts3 h N v ids hN hnd hin hF
   simp only [w1,decide_false,Bool.false_eq_true,if_false] at h
   by_cases w2 : x.text = X3q
   ·simp only [w2,decide_true,if_true,Xbw,List.tail_cons] at h
    simp [w2]
    refine ⟨(Qo hP).2.1,?_⟩
    have ek : ∀ g : List RForm → M RForm,(Xd1 n >>= g) = (Yn [123] >>= fun _ => Yu n >>= g) := fun g => by rw [Xd1,Y8]
    rw [← ek] at h
    refine X82 hP n hk r hlr _ p m c en hl1 hc1 _ (RP.mono h (fun ts' e h => ?_) (fun f ts3 h => ?_))
    ·unfold EP
     rw [hs1]
     simp
     exact Xp hp hm h (by simp) (by simp [hp])
    ·intro N v ids hN hnd hin hF
     rw [hf1] at hN
     rw [hs1]
     simp
     exact fin f ts3 h N v ids hN hnd hin hF
   simp only [w2,decide_false,Bool.false_eq_true,if_false] at h
   by_cases w3 : x.text = Q5
   ·simp only [w3,decide_true,if_true,Xbw,List.tail_cons] at h
    simp [w3]
    refine ⟨(Qo hP).2.2.1,?_⟩
    have ek : ∀ g : List RForm → M RForm,(Xd1 n >>= g) = (Yn [123] >>= fun _ => Yu n >>= g) := fun g => by rw [Xd1,Y8]
    simp only [← ek] at h
    refine X0b hP n hk r hlr hl1 hc1 (RP.mono h (fun ts' e h => ?_) (fun f ts3 h => ?_))
    ·unfold EP
     rw [hs1]
     simp
     exact Xp hp hm h (by simp) (by simp [hp])
    ·intro N v ids hN hnd hin hF
     rw [hf1] at hN
     rw [hs1]
     simp
     exact fin f ts3 h N v ids hN hnd hin hF
   simp only [w3,decide_false,Bool.false_eq_true,if_false] at h
   by_cases w4 : x.text = Xxb
   ·simp only [w4,decide_true,if_true,Xbw,List.tail_cons] at h
    simp [w4]
    refine ⟨(Qo hP).2.2.2,?_⟩
    refine X9v hP hl1 hc1 (RP.mono h (fun ts' e h => ?_) (fun f ts3 h => ?_))
    ·unfold EP
     rw [hs1]
     simp
     exact Xp hp hm h (by simp) (by simp [hp])
    ·intro N v ids hN hnd hin hF
     rw [hf1] at hN
     rw [hs1]
     simp
     exact fin f ts3 h N v ids hN hnd hin hF
   simp only [w4,decide_false,Bool.false_eq_true,if_false] at h
   simp [w1,w2,w3,w4]
   exact atm h _
theorem Xie : ∀ n,n ≤ 1000000 → (∀ m,m ≤ n → Xr4 P m)
 | 0,_ => fun m hm ts hts => by omega
 | n + 1,hn => fun m hm => by
  have ih := Xie n (by omega)
  rcases Nat.lt_or_ge m (n + 1) with h1 | h1
  ·exact ih m (by omega)
  ·have : m = n + 1 := by omega
   subst this
   exact X7x hP n (X7c hP n (by omega) (fun m hm => ih m (by omega)))
end
end Go.Proofs.YtmapdjjigmkbfaaGreatDoor
/- Contract: a question is read. Condition: the program is the seat's. -/
namespace Go.Sx
open Go Go.Ab Go.Lx
def Xpp (N : Objs) (vs : List RVar) (vv : V) (ids : List Nat) : Prop := (vs = [] ∧ vv = .d .nils ∧ ids = []) ∨ (vs ≠ [] ∧ ∃ id,vv = .sl id vs.length ∧ ids = [id] ∧ lookO N id = some (.arr 63 4 (vs.map RVar.enc)))
def qV (name : B) (pur : Int) (vv fv : V) : V := V.mk [.d (.str name),.d (iD pur),vv,fv]
def qS (name pur : B) (vv fv : V) : V := V.mk [qV name 0 vv fv,.d (.str pur)]
section
variable {name pur : B} {z : Int} {vv fv : V}
@[simp] theorem X7u : (qV name z vv fv).kids = some [.d (.str name),.d (iD z),vv,fv] := V.kids_mk _
@[simp] theorem X7t : (qS name pur vv fv).kids = some [qV name 0 vv fv,.d (.str pur)] := V.kids_mk _
@[simp] theorem Xv2 : (qV name z vv fv).isAgg = true := V.isAgg_mk _
@[simp] theorem X3h : (qS name pur vv fv).isAgg = true := V.isAgg_mk _
theorem Yb : (qV name z vv fv).shape = .node [.leaf,.leaf,vv.shape,fv.shape] := by rw [V.shape_kids X7u]; rfl
theorem Xcc : (qS name pur vv fv).shape = .node [.node [.leaf,.leaf,vv.shape,fv.shape],.leaf] := by rw [V.shape_kids X7t]; simp [Yb]
@[simp] theorem qV_fold : mkO [.d (.str name),.d (.int .i64 z),vv,fv] (Xbs (.str name) (Xbs (.int .i64 z) (V.allD [vv,fv]))) = qV name z vv fv := by simp [qV]
@[simp] theorem qS_fold : mkO [qV name 0 vv fv,.d (.str pur)] (V.allD [qV name 0 vv fv,.d (.str pur)]) = qS name pur vv fv := by rw [← Yhl]; rfl
@[simp] theorem qS_sl (i n : Nat) : V.agg [.agg [.d (.str name),.d (.int .i64 0),.sl i n,fv],.d (.str pur)] = qS name pur (.sl i n) fv := rfl
theorem Xox {q : Nat → Bool} (l : List V) : V.men q (V.mk l) = V.mens q l := by
 unfold V.mk
 cases h : V.allD l with
 | none => rfl
 | some x =>
  rw [V.allD_map h]
  simp only [V.men]
  clear h
  induction x with
  | nil => rfl
  | cons a r ih => simp [V.mens,V.men,← ih]
@[simp] theorem qV_men {q : Nat → Bool} : V.men q (qV name z vv fv) = (V.men q vv || V.men q fv) := by rw [qV,Xox]; simp [V.mens,V.men]
@[simp] theorem qS_men {q : Nat → Bool} : V.men q (qS name pur vv fv) = (V.men q vv || V.men q fv) := by rw [qS,Xox]; simp [V.mens,V.men]
theorem Xoy (l : List V) : (V.mk l).sto = V.stos l := by
 unfold V.mk
 cases h : V.allD l with
 | none => rfl
 | some x =>
  rw [V.allD_map h]
  clear h
  induction x with
  | nil => rfl
  | cons a r ih => simpa [V.stos,V.sto] using ih
@[simp] theorem qV_sto : (qV name z vv fv).sto = (vv.sto && fv.sto) := by rw [qV,Xoy]; simp [V.stos,V.sto]
@[simp] theorem qS_sto : (qS name pur vv fv).sto = (vv.sto && fv.sto) := by rw [qS,Xoy]; simp [V.stos,V.sto]
end
def Yi : D := .agg [iD 0,iD 0,.nils,.agg [iD 0,.agg [.str [],.str [],iD 0,iD 0,iD 0],.agg [.str [],.str [],iD 0,iD 0,iD 0]]]
def PQ (K : Out → Objs → Prop) (ob : Objs) (p : Nat) (en : Int) (S : V) : R (RQ × B) → Prop :=
 RP (fun x ts => ∀ N vv fv a b,News (fresh ob) N → (a ++ b).Nodup → (∀ j ∈ a ++ b,j ∈ Xc N) → Xpp N x.1.vars vv a → Zp N x.1.form fv b → K (.ret (qS x.1.name x.2 vv fv)) (N ++ setO ob p (pb ts en S))) (EP K ob p en S)
end Go.Sx
namespace Go.Proofs.YtmapdjjigmkbfaaGreatDoor
open Go Go.Ab Go.Lx Go.Sx
set_option maxRecDepth 100000
section
variable {P : Prg} (hP : P.p = Tryz.prog)
include hP
theorem Xpq (n : Nat) (hn : n ≤ 1000000) (ts : List Tok) (hts : ts.length + 2 ≤ n) {ob : Objs} {p m c : Nat} {en : Int} (hp : lookO ob p = some (pb ts en (.mp m))) (hc : Ctx ob p m c) {K : Out → Objs → Prop} (h : PQ K ob p en (.mp m) (Vf n ts)) : ACall P 27 [.ptr p []] ob K := by
 refine Xck hP mixed Ylk Yom TOk.nil fun _ hm => ?_
 have hlp := Xu hp
 have hS : V.allD [V.mp m] = none := by simp [V.allD]
 have e1 : (fresh ob == p) = false := by simp; omega
 have cm : ∀ ts' o,lookO ((fresh ob,o) :: setO ob p (pb ts' en (.mp m))) p = some (pb ts' en (.mp m)) := fun ts' o => by simp [hp,e1]
 have er : ∀ ts' e o,EP K ob p en (.mp m) ts' e → Xv (fresh ob) (K (.panic (.d (Vl en ts' e)))) [.d (Vl en ts' e)] ((fresh ob,o) :: setO ob p (pb ts' en (.mp m))) := fun ts' e o h => Xp hp hm h (by simp) (by simp [hp])
 unfold PQ Vf at h
 simp only [W6,Yn,Y8,Uz] at h
 simp [Ynd]
 refine W8 hP hS (ts := ts) (en := en) (by simp [hp,e1]) _ _ (RP.pk h (fun ts' e h => ?_) (fun a ts1 h1 h => ?_))
 ·simp [e1]
  exact er _ _ _ h
 simp [Xx8,e1]
 refine Xdr hP hS (cm _ _) (RP.pk h (fun ts' e h => ?_) (fun name ts2 h2 h => ?_))
 ·simp [e1]
  exact er _ _ _ h
 simp [Xx7,e1]
 refine W8 hP hS (cm _ _) _ _ (RP.pk h (fun ts' e h => ?_) (fun a ts3 h3 h => ?_))
 ·simp [e1]
  exact er _ _ _ h
 simp [Xx6,e1]
 refine Xdr hP hS (cm _ _) (RP.pk h (fun ts' e h => ?_) (fun pur ts4 h4 h => ?_))
 ·simp [e1]
  exact er _ _ _ h
 simp [Xx5,e1]
 refine W8 hP hS (cm _ _) _ _ (RP.pk h (fun ts' e h => ?_) (fun a ts5 h5 h => ?_))
 ·simp [e1]
  exact er _ _ _ h
 simp [Xx4,e1]
 have l5 : ts5.length + 2 ≤ n := by
  have g1 := Qj h1; have g2 := Vc.name _ _ _ h2; have g3 := Qj h3; have g4 := Vc.name _ _ _ h4; have g5 := Qj h5
  omega
 let bx : V → V → Ob := fun vv fv => .box 93 (qS name pur vv fv)
 let O2 : List RVar → Option Nat → V → List Tok → Objs := fun vs o fv ts => match o with
  | none => (fresh ob,bx (.d .nils) fv) :: setO ob p (pb ts en (.mp m))
  | some id => (id,.arr 63 4 (vs.map RVar.enc)) :: (fresh ob,bx (.sl id vs.length) fv) :: setO ob p (pb ts en (.mp m))
 let O : List RVar → Option Nat → List Tok → Objs := fun vs o ts => O2 vs o (.d Yi) ts
 let vV : List RVar → Option Nat → V := fun vs o => match o with
  | none => .d .nils
  | some id => .sl id vs.length
 let ok : List RVar → Option Nat → Prop := fun vs o => (vs = [] ∧ o = none) ∨ (vs ≠ [] ∧ ∃ id,o = some id ∧ fresh ob + 1 ≤ id)
 refine ALoop.go (ι := List RVar × Option Nat × List Tok × Nat) (fun _ => [(0,.ptr p []),(2,.ptr (fresh ob) [])]) (fun i => O i.1 i.2.1 i.2.2.1)
  (fun i => ok i.1 i.2.1 ∧ i.2.2.1.length + 1 ≤ i.2.2.2 ∧ i.1.length + i.2.2.1.length + 2 ≤ n ∧ RP (fun (x : RQ × B) ts => ∀ N vv fv a b,News (fresh ob) N → (a ++ b).Nodup → (∀ j ∈ a ++ b,j ∈ Xc N) → Xpp N x.1.vars vv a → Zp N x.1.form fv b → K (.ret (qS x.1.name x.2 vv fv)) (N ++ setO ob p (pb ts en (.mp m)))) (EP K ob p en (.mp m))
   ((Wk i.2.2.2 >>= fun vs => W0 n >>= fun f => Ul 3 [59] >>= fun _ => Ul 3 [125] >>= fun _ => X1i >>= fun _ => pure (⟨name,0,i.1 ++ vs,f⟩,pur)) i.2.2.1)) (fun i => i.2.2.1.length)
  ([],none,ts5,n) ⟨.inl ⟨rfl,rfl⟩,by simp only; omega,by simp only [List.length_nil]; omega,?_⟩ (by simp) rfl ?_
 ·simpa using h
 rintro ⟨vs,o,ts6,k⟩ ⟨hk,hk1,hk2,h⟩ R rn re rr rp
 simp only at hk hk1 hk2 h rn ⊢
 obtain ⟨k,rfl⟩ : ∃ j,k = j + 1 := ⟨k - 1,by omega⟩
 have hOp2 : ∀ fv ts',lookO (O2 vs o fv ts') p = some (pb ts' en (.mp m)) := fun fv ts' => by
  rcases hk with ⟨_,rfl⟩ | ⟨_,id,rfl,hid⟩
  ·simp [O2,e1,hp]
  ·have e2 : (id == p) = false := by simp; omega
   simp [O2,e1,e2,hp]
 have hOs2 : ∀ fv ts1 ts',setO (O2 vs o fv ts1) p (pb ts' en (.mp m)) = O2 vs o fv ts' := fun fv ts1 ts' => by
  rcases hk with ⟨_,rfl⟩ | ⟨_,id,rfl,hid⟩
  ·simp [O2,e1]
  ·have e2 : (id == p) = false := by simp; omega
   simp [O2,e1,e2]
 have hOt2 : ∀ fv ts',lookO (O2 vs o fv ts') (fresh ob) = some (bx (vV vs o) fv) := fun fv ts' => by
  rcases hk with ⟨_,rfl⟩ | ⟨_,id,rfl,hid⟩
  ·simp [O2,vV]
  ·have e2 : (id == fresh ob) = false := by simp; omega
   simp [O2,vV,e2]
 have hOf2 : ∀ fv fv' ts',setO (O2 vs o fv ts') (fresh ob) (bx (vV vs o) fv') = O2 vs o fv' ts' := fun fv fv' ts' => by
  rcases hk with ⟨_,rfl⟩ | ⟨_,id,rfl,hid⟩
  ·simp [O2,vV]
  ·have e2 : (id == fresh ob) = false := by simp; omega
   simp [O2,vV,e2]
 have hOk2 : ∀ fv ts',Xc (O2 vs o fv ts') = (match o with | none => [] | some id => [id]) ++ fresh ob :: Xc ob := fun fv ts' => by
  have := Ya ob p (pb ts' en (.mp m))
  rcases hk with ⟨_,rfl⟩ | ⟨_,id,rfl,hid⟩
  ·simp only [O2,Xc,List.map_cons,List.nil_append] at this ⊢; rw [this]
  ·simp only [O2,Xc,List.map_cons,List.cons_append,List.nil_append] at this ⊢; rw [this]
 have hlv : ∀ fv ts' e (o1 : Objs),(∀ j ∈ Xc o1,fresh ob ≤ j) → EP K ob p en (.mp m) ts' e → Xv (fresh ob) (K (.panic (.d (Vl en ts' e)))) [.d (Vl en ts' e)] (o1 ++ O2 vs o fv ts') := fun fv ts' e o1 ho h => by
  refine Xp hp hm h (by simp) ?_
  rw [Qq (fun j hj => by simpa [young] using ho j hj)]
  rcases hk with ⟨_,rfl⟩ | ⟨_,id,rfl,hid⟩
  ·simp [O2,hp]
  ·have : fresh ob ≤ id := by omega
   simp [O2,young,this,hp]
 have hOg : ∀ fv ts',fresh ob + 1 ≤ fresh (O2 vs o fv ts') := fun fv ts' => by
  have : fresh ob < fresh (O2 vs o fv ts') := Xz (by rw [hOk2]; simp)
  omega
 have hOc : ∀ fv ts',Ctx (O2 vs o fv ts') p m c := fun fv ts' => by
  rcases hk with ⟨_,rfl⟩ | ⟨_,id,rfl,hid⟩
  ·exact (hc.set ⟨_,hp⟩).cons (by simp)
  ·refine Ctx.cons ((hc.set ⟨_,hp⟩).cons (by simp)) ?_
   simp; omega
 rw [Wk] at h
 simp only [Xzu,Y8,Uz,List.append_nil] at h
 simp [Xx2]
 refine Xjz hP hS (ts := ts6) (en := en) (S := .mp m) (hOp2 _ _) _ _ ?_
 try simp only [O]
 rw [hOs2]
 simp
 have exitF : RP (fun (x : RQ × B) ts => ∀ N vv fv a b,News (fresh ob) N → (a ++ b).Nodup → (∀ j ∈ a ++ b,j ∈ Xc N) → Xpp N x.1.vars vv a → Zp N x.1.form fv b → K (.ret (qS x.1.name x.2 vv fv)) (N ++ setO ob p (pb ts en (.mp m)))) (EP K ob p en (.mp m))
   ((W0 n >>= fun f => Ul 3 [59] >>= fun _ => Ul 3 [125] >>= fun _ => X1i >>= fun _ => pure (⟨name,0,vs,f⟩,pur)) ts6) → ∀ rest,R (.exit 0) ((0,.ptr p []) :: (2,.ptr (fresh ob) []) :: rest) (O2 vs o (.d Yi) ts6) := by
  intro h rest
  refine re _ _ _ ?_
  simp
  refine Xie hP n hn n (Nat.le_refl _) ts6 (by omega) _ p m c en (hOp2 _ _) (hOc _ _) _ (RP.bind h (fun ts' e h => ?_) (fun f ts7 h7 h => ?_))
  ·unfold EP
   rw [hOs2]
   simp
   exact hlv _ ts' e [] (by simp [Xc]) h
  ·intro N v ids hN hnd hin hF
   rw [hOs2]
   have hgg := hOg (.d Yi) ts6
   have hN1 : ∀ j ∈ Xc N,fresh ob + 1 ≤ j := fun j hj => by have := hN.ge j hj; omega
   have ht : fresh ob ∉ Xc N := fun e => by have := hN1 _ e; omega
   have hpN : p ∉ Xc N := fun e => by have := hN1 _ e; omega
   have hlk : ∀ fv ts',lookO (N ++ O2 vs o fv ts') (fresh ob) = some (bx (vV vs o) fv) := fun fv ts' => by rw [Yf ht,hOt2]
   have hst : ∀ fv fv' ts',setO (N ++ O2 vs o fv ts') (fresh ob) (bx (vV vs o) fv') = N ++ O2 vs o fv' ts' := fun fv fv' ts' => by rw [Y6 ht,hOf2]
   have hlp : ∀ fv ts',lookO (N ++ O2 vs o fv ts') p = some (pb ts' en (.mp m)) := fun fv ts' => by rw [Yf hpN,hOp2]
   have hsp : ∀ fv ts1 ts',setO (N ++ O2 vs o fv ts1) p (pb ts' en (.mp m)) = N ++ O2 vs o fv ts' := fun fv ts1 ts' => by rw [Y6 hpN,hOs2]
   obtain ⟨v1,v2,v3,v4⟩ := hF.fits
   simp only [bx] at hlk hst
   have hvs : (vV vs o).shape = .leaf := by
    rcases hk with ⟨_,rfl⟩ | ⟨_,id,rfl,hid⟩ <;> rfl
   have hvt : (vV vs o).sto = true := by
    rcases hk with ⟨_,rfl⟩ | ⟨_,id,rfl,hid⟩ <;> rfl
   have hks : ∀ j ∈ Xc N,fresh ob ≤ j := fun j hj => by have := hN1 j hj; omega
   simp [hlk,v1,v3,hst,Yi,hvs]
   simp [X31]
   refine W8 hP hS (hlp _ _) _ _ (RP.pk h (fun ts' e h => ?_) (fun a ts8 h8 h => ?_))
   ·rw [hsp]
    simp
    exact hlv _ _ e N hks h
   rw [hsp]
   simp [X30]
   refine W8 hP hS (hlp _ _) _ _ (RP.pk h (fun ts' e h => ?_) (fun a ts9 h9 h => ?_))
   ·rw [hsp]
    simp
    exact hlv _ _ e N hks h
   rw [hsp]
   simp [X3z,hlp]
   cases ts9 with
   | cons x r =>
    simp
    refine X3r hP hS (hlp _ _) 100 ?_
    rw [hsp]
    simp
    exact hlv _ _ 100 N hks (by simpa [Xi,X1i] using h)
   | nil =>
    simp [X3y,hlk,Xcc,hvs,v1,v3,hvt,hst]
    have h' : ∀ N vv fv a b,News (fresh ob) N → (a ++ b).Nodup → (∀ j ∈ a ++ b,j ∈ Xc N) → Xpp N vs vv a → Zp N f fv b → K (.ret (qS name pur vv fv)) (N ++ setO ob p (pb [] en (.mp m))) := by simpa [Xi,X1i] using h
    refine ⟨X3h,?_⟩
    rcases hk with ⟨rfl,rfl⟩ | ⟨hne,id,rfl,hid⟩
    ·have hV : Xpp N [] (.d .nils) [] := .inl ⟨rfl,rfl,rfl⟩
     exact Xtz hp hm (M := [(fresh ob,bx (.d .nils) v)]) (hN.le (by omega)) (fun j hj => by simp [Xc] at hj; subst hj; exact ⟨Nat.le_refl _,ht⟩)
      (fun q hq => by simp [vV,hF.men (fun j hj => hq j (hin j hj))]) (h' N _ v [] ids (hN.le (by omega)) (by simpa using hnd) (by simpa using hin) hV hF)
    ·have hidl : id < fresh (O2 vs (some id) (.d Yi) ts6) := Xz (by rw [hOk2]; simp)
     have hiN : id ∉ Xc N := fun e => by have := hN.ge _ e; omega
     have hkN : Xc (N ++ [(id,Ob.arr 63 4 (vs.map RVar.enc))]) = Xc N ++ [id] := by rw [Z9]; rfl
     have hNN : News (fresh ob) (N ++ [(id,Ob.arr 63 4 (vs.map RVar.enc))]) := by
      refine (hN.le (by omega)).app ⟨fun j hj => ?_,fun q _ => rfl⟩
      simp [Xc] at hj
      omega
     have hV : Xpp (N ++ [(id,Ob.arr 63 4 (vs.map RVar.enc))]) vs (.sl id vs.length) [id] := .inr ⟨hne,id,rfl,rfl,by rw [Yf hiN]; simp⟩
     have hF' : Zp (N ++ [(id,Ob.arr 63 4 (vs.map RVar.enc))]) f v ids := hF.look (fun j hj => Ve (hin j hj))
     have := h' _ _ v [id] ids hNN (by
      rw [List.singleton_append]
      exact List.nodup_cons.2 ⟨fun e => hiN (hin _ e),hnd⟩) (fun j hj => by
      rw [hkN]
      simp only [List.singleton_append,List.mem_cons] at hj
      rcases hj with rfl | hj
      ·simp
      ·simp [hin j hj]) hV hF'
     have hl := Xtz hp hm (M := [(fresh ob,bx (.sl id vs.length) v)]) (v := qS name pur (.sl id vs.length) v) hNN (fun j hj => by
      simp [Xc] at hj; subst hj
      rw [hkN]
      exact ⟨Nat.le_refl _,fun e => by
       rw [List.mem_append] at e
       rcases e with e | e
       ·exact ht e
       ·simp at e; omega⟩) (fun q hq => by
      rw [hkN] at hq
      simp [V.men,hF.men (fun j hj => hq j (by simp [hin j hj])),hq id (by simp)]) this
     simpa [O2,vV] using hl
 cases hf : Xo 1 Xng ts6 with
 | false =>
  have hfb : Xd0 ts6 = false := by simp [Xd0,hf]
  simp only [Go.Sx.ifM,hfb,Bool.false_eq_true,if_false] at h
  simp [Xj6]
  exact exitF h _
 | true =>
  simp
  refine Xxd hP hS (ts := ts6) (en := en) (S := .mp m) (hOp2 _ _) _ _ ?_
  rw [hOs2]
  cases hd : Xo 3 [46] ts6.tail with
  | true =>
   have hfb : Xd0 ts6 = false := by simp [Xd0,hf,Xs2,hd]
   simp only [Go.Sx.ifM,hfb,Bool.false_eq_true,if_false] at h
   simp [Xj6]
   exact exitF h _
  | false =>
   have hfb : Xd0 ts6 = true := by simp [Xd0,hf,Xs2,hd]
   simp only [Go.Sx.ifM,hfb,if_true,Xxq,W6,Yn,Y8,Uz] at h
   have er : ∀ ts' e (M : Objs),(∀ j ∈ Xc M,fresh ob ≤ j) → EP K ob p en (.mp m) ts' e → R (.panic (.d (Vl en ts' e))) [] (M ++ O2 vs o (.d Yi) ts') := fun ts' e M hM h => by
    refine rp _ _ _ ?_
    simp
    exact hlv _ ts' e M hM h
   have hgg := hOg (.d Yi) ts6
   have hxf : ∀ ts',fresh (O2 vs o (.d Yi) ts') = fresh (O2 vs o (.d Yi) ts6) := fun ts' => by rw [← hOs2 (.d Yi) ts6 ts']; simp
   simp [Xj6,Xx3]
   refine W8 hP hS (hOp2 _ _) _ _ (RP.pk h (fun ts' e h => ?_) (fun a ts7 h7 h => ?_))
   ·rw [hOs2]
    simp
    exact er ts' e [] (by simp [Xc]) h
   rw [hOs2]
   simp [X35]
   refine Xdr hP hS (hOp2 _ _) (RP.pk h (fun ts' e h => ?_) (fun vn ts8 h8 h => ?_))
   ·rw [hOs2]
    simp
    exact er ts' e [] (by simp [Xc]) h
   rw [hOs2]
   simp [X34]
   rw [hxf ts8]
   have hyy : ∃ y,fresh (O2 vs o (.d Yi) ts6) = y := ⟨_,rfl⟩
   obtain ⟨y,hy⟩ := hyy
   rw [hy] at hgg hxf ⊢
   have e3 : (y == p) = false := by simp; omega
   have e4 : (y == fresh ob) = false := by simp; omega
   have hOp3 : ∀ b ts',lookO ((y,b) :: O2 vs o (.d Yi) ts') p = some (pb ts' en (.mp m)) := fun b ts' => by rw [Xn _ _ _ _ e3,hOp2]
   have hOs3 : ∀ b ts1 ts',setO ((y,b) :: O2 vs o (.d Yi) ts1) p (pb ts' en (.mp m)) = (y,b) :: O2 vs o (.d Yi) ts' := fun b ts1 ts' => by rw [Yo _ _ _ _ _ e3,hOs2]
   have er3 : ∀ b ts' e,EP K ob p en (.mp m) ts' e → R (.panic (.d (Vl en ts' e))) [] ((y,b) :: O2 vs o (.d Yi) ts') := fun b ts' e h => er ts' e [(y,b)] (by simp [Xc]; omega) h
   refine Xdr hP hS (hOp3 _ _) (RP.pk h (fun ts' e h => ?_) (fun vk ts9 h9 h => ?_))
   ·rw [hOs3]
    simp
    exact er3 _ ts' e h
   rw [hOs3]
   simp [X33]
   refine Xai hP hS (hOp3 _ _) _ _ (RP.pk h (fun ts' e h => ?_) (fun vo ts10 h10 h => ?_))
   ·rw [hOs3]
    simp
    exact er3 _ ts' e h
   rw [hOs3]
   simp [X32]
   refine W8 hP hS (hOp3 _ _) _ _ (RP.pk h (fun ts' e h => ?_) (fun a ts11 h11 h => ?_))
   ·rw [hOs3]
    simp
    exact er3 _ ts' e h
   rw [hOs3]
   have hts11 : ts11.length + 1 ≤ ts6.length := by
    have g1 := Qj h7; have g2 := Vc.name _ _ _ h8; have g3 := Vc.name _ _ _ h9; have g4 := Vc.accept _ _ _ _ _ h10; have g5 := Qj h11
    omega
   rcases hk with ⟨rfl,rfl⟩ | ⟨hne,id,rfl,hid⟩
   ·have hl1 : ∀ b,lookO ((y,b) :: O2 [] none (.d Yi) ts11) (fresh ob) = some (.box 93 (qS name pur (.d .nils) (.d Yi))) := fun b => by rw [Xn _ _ _ _ e4,hOt2]
    have e5 : (y + 1 == fresh ob) = false := by simp; omega
    have e6 : (y == fresh ob) = false := e4
    have hy0 := hxf ts11
    have hl2 : lookO (O2 [] none (.d Yi) ts11) (fresh ob) = some (.box 93 (qS name pur (.d .nils) (.d Yi))) := hOt2 _ _
    have zs : Yi.shape.size = 14 := rfl
    simp [Xrm,hl1,hy0,e5,e6,hl2]
    have hst : setO (O2 [] none (.d Yi) ts11) (fresh ob) (.box 93 (qS name pur (.sl (y + 1) 1) (.d Yi))) = (fresh ob,bx (.sl (y + 1) 1) (.d Yi)) :: setO ob p (pb ts11 en (.mp m)) := by simp [O2,bx]
    rw [hst]
    have hO6 : fresh (O2 [] none (.d Yi) ts6) = y := hy
    refine rn [y + 1] ([⟨vn,vk,0,vo⟩],some (y + 1),ts11,k) _ _ ⟨.inr ⟨by simp,y + 1,rfl,by omega⟩,by simp only; omega,by simp only [List.length_cons,List.length_nil] at hk2 ⊢; omega,by simpa using h⟩ (by simp only; omega) (by simp) ?_ ?_ ?_
    ·show Xw (young (fresh (O2 [] none (.d Yi) ts6)) [y + 1]) _ = _
     rw [hO6]
     have d1 : young y [y + 1] y = true := by simp [young]
     have d2 : young y [y + 1] (y + 1) = false := by simp [young]
     have d3 : young y [y + 1] (fresh ob) = false := by simp [young]; omega
     simp only [Xw,d1,d2,d3,if_true,if_false,Bool.false_eq_true]
     rw [X8 (fun j hj => by
      rw [Ya] at hj
      have := Xz hj
      simp [young]; omega)]
     rfl
    ·show Ur (young (fresh (O2 [] none (.d Yi) ts6)) [y + 1]) _ = true
     rw [hO6]
     simp [young]; omega
    ·show noMenO (young (fresh (O2 [] none (.d Yi) ts6)) [y + 1]) (O2 [⟨vn,vk,0,vo⟩] (some (y + 1)) (.d Yi) ts11) = true
     rw [hO6]
     have d2 : young y [y + 1] (y + 1) = false := by simp [young]
     simp [O2,bx,noMenO,V.men,d2]
     exact noMenO_set_box _ _ _ _ _ (Zu hm (by omega)) (by have := Wa (Zu (l := [y + 1]) (n := y) hm (by omega)) hp; simpa [pv] using this)
   ·have hl1 : ∀ b,lookO ((y,b) :: O2 vs (some id) (.d Yi) ts11) (fresh ob) = some (.box 93 (qS name pur (.sl id vs.length) (.d Yi))) := fun b => by rw [Xn _ _ _ _ e4,hOt2]
    have hidl : id < y := by rw [← hy]; exact Xz (by rw [hOk2]; simp)
    have e7 : (y == id) = false := by simp; omega
    have e8 : (id == fresh ob) = false := by simp; omega
    have hO6 : fresh (O2 vs (some id) (.d Yi) ts6) = y := hy
    have hOe : O2 vs (some id) (.d Yi) ts11 = (id,.arr 63 4 (vs.map RVar.enc)) :: (fresh ob,bx (.sl id vs.length) (.d Yi)) :: setO ob p (pb ts11 en (.mp m)) := rfl
    rw [hOe] at hl1 ⊢
    simp only [bx] at hl1 ⊢
    simp [Xrm,hl1,e7,e8,e4]
    refine ⟨by omega,?_⟩
    refine rn [] (vs ++ [⟨vn,vk,0,vo⟩],some id,ts11,k) _ _ ⟨.inr ⟨by simp,id,rfl,hid⟩,by simp only; omega,by simp only [List.length_append,List.length_cons,List.length_nil] at hk2 ⊢; omega,by simpa [List.append_assoc] using h⟩ (by simp only; omega) (by simp) ?_ ?_ ?_
    ·show Xw (young (fresh (O2 vs (some id) (.d Yi) ts6)) []) _ = _
     rw [hO6]
     have d1 : young y [] y = true := by simp [young]
     have d2 : young y [] id = false := by simp [young]; omega
     have d3 : young y [] (fresh ob) = false := by simp [young]; omega
     simp only [Xw,d1,d2,d3,if_true,if_false,Bool.false_eq_true]
     rw [X8 (fun j hj => by
      rw [Ya] at hj
      have := Xz hj
      simp [young]; omega)]
     simp [O,O2,bx,RVar.enc]
    ·show Ur (young (fresh (O2 vs (some id) (.d Yi) ts6)) []) _ = true
     rw [hO6]
     simp [young]; omega
    ·show noMenO (young (fresh (O2 vs (some id) (.d Yi) ts6)) []) (O2 (vs ++ [⟨vn,vk,0,vo⟩]) (some id) (.d Yi) ts11) = true
     rw [hO6]
     have d2 : young y [] id = false := by simp [young]; omega
     simp [O2,bx,noMenO,V.men,d2]
     exact noMenO_set_box _ _ _ _ _ (Zu hm (by omega)) (by have := Wa (Zu (l := []) (n := y) hm (by omega)) hp; simpa [pv] using this)
end
end Go.Proofs.YtmapdjjigmkbfaaGreatDoor
/- Contracts: names are looked up while a question is resolved. Condition: the program is the seat's. -/
namespace Go.Sx
open Go Go.Ab Go.Lx
abbrev unD : D := .iface 86 (.agg [])
def VL (ob : Objs) (vs : List RVar) (vv : V) : Prop := (vs = [] ∧ vv = .d .nils) ∨ ∃ id,vv = .sl id vs.length ∧ lookO ob id = some (.arr 63 4 (vs.map RVar.enc))
def rV (y : RSrc) (vv : V) : V := V.mk [.d y.enc,vv]
section
variable {y : RSrc} {vv : V}
@[simp] theorem X7w : (rV y vv).kids = some [.d y.enc,vv] := V.kids_mk _
@[simp] theorem Xde : (rV y vv).isAgg = true := V.isAgg_mk _
theorem Zv : (rV y vv).shape = .node [.node [.leaf,.leaf,.leaf,.leaf,.leaf,.leaf],vv.shape] := by rw [V.shape_kids X7w]; rfl
@[simp] theorem rV_men {q : Nat → Bool} : V.men q (rV y vv) = V.men q vv := by rw [rV,Xox]; simp [V.mens,V.men]
@[simp] theorem rV_sto : (rV y vv).sto = vv.sto := by rw [rV,Xoy]; simp [V.stos,V.sto]
end
theorem VL.shape {ob : Objs} {vs : List RVar} {vv : V} (h : VL ob vs vv) : vv.shape = .leaf ∧ vv.sto = true ∧ vv ≠ .any := by
 rcases h with ⟨_,rfl⟩ | ⟨id,rfl,_⟩ <;> exact ⟨rfl,rfl,by simp⟩
structure TLoc (T : V) (tst : RTerm → Objs) : Prop where
 nil : Jc T
 fa : ∀ t k,k < 5 → U9 (tst t) k k T
 nmV : ∀ t,ldV (tst t) (Ym 0 0 T) = .d (.str t.name)
 nmS : ∀ t,ldS (tst t) 1 false (Ym 0 0 T)
 paV : ∀ t,ldV (tst t) (Ym 1 1 T) = .d (.str t.path)
 paS : ∀ t,ldS (tst t) 1 false (Ym 1 1 T)
 vaV : ∀ t,ldV (tst t) (Ym 2 2 T) = .d (iD t.var)
 vaS : ∀ t,ldS (tst t) 1 false (Ym 2 2 T)
 stv : ∀ t x (K : V → Objs → Prop),K .undef (tst { t with var := x }) → stK (tst t) 1 (.d (.int .i64 x)) K (Ym 2 2 T)
 stf : ∀ t x (K : V → Objs → Prop),K .undef (tst { t with field := x }) → stK (tst t) 1 (.d (.int .i64 x)) K (Ym 3 3 T)
 fr : ∀ t t',fresh (tst t) = fresh (tst t')
 ks : ∀ t t',Xc (tst t) = Xc (tst t')
 nm : ∀ t t' q,noMenO q (tst t) = noMenO q (tst t')
end Go.Sx
namespace Go.Proofs.YtmapdjjigmkbfaaGreatDoor
open Go Go.Ab Go.Lx Go.Sx
set_option maxRecDepth 100000
section
variable {P : Prg} (hP : P.p = Tryz.prog)
include hP
theorem Wz (n : Int) (b : Bool) {ob : Objs} {K : Out → Objs → Prop} (h1 : b = true → K (.ret (.d (.int .i64 n))) ob) (h0 : b = false → K (.panic (.d unD)) ob) : ACall P 70 [.d (.int .i64 n),.d (.bool b)] ob K := by
 refine acall_lift hP mixed Yl8 Ypa TOk.nil fun _ hm => ?_
 cases b with
 | true =>
  simp [Yic,X4t]
  exact ⟨[],by simp,by simpa using hm [],by simpa using h1 rfl⟩
 | false =>
  simp [Yic]
  exact ⟨[],by simp,by simpa using hm [],by simpa using h0 rfl⟩
theorem X1c {y : RSrc} {vs : List RVar} (hvl : vs.length ≤ 1000000) {vv : V} (n : B) {ob : Objs} (hv : VL ob vs vv) {K : Out → Objs → Prop} (h1 : 0 ≤ Xe RVar.name vs n 0 → K (.ret (.d (.int .i64 (Xe RVar.name vs n 0)))) ob) (h0 : Xe RVar.name vs n 0 < 0 → K (.panic (.d unD)) ob) :
  ACall P 115 [rV y vv,.d (.str n)] ob K := by
 refine acall_lift hP mixed Yb8 Ygy TOk.nil fun hm0 hm => ?_
 obtain ⟨k1,k2,k3⟩ := hv.shape
 simp [Yec,k1,k2,Zv]
 have go : ∀ (K' : V → Prop),K' (.d (.int .i64 (Xe RVar.name vs n 0))) → PCall P 94 [vv,.d (.str n)] ((fresh ob,.box 96 (rV y vv)) :: ob) K' := by
  intro K' h
  rcases hv with ⟨rfl,rfl⟩ | ⟨id,rfl,hl⟩
  ·exact PCall.le (xs := [.nils,.str n]) (ys := [.list 4 [],.str n]) (D.les.cons (D.le.nil 4) (D.les.cons (D.le.refl _) D.les.nil)) (Qn hP (l := []) (by simp) n h)
  ·have hid := Xu hl
   have e : (fresh ob == id) = false := by simp; omega
   refine PCall.borrow (n := 5) (ds := [.list 4 (vs.map RVar.enc),.str n]) (by simp [e,hl]) (Qn hP (by omega) n ⟨by simp [V.flatR],h⟩)
 have hva : vv.isAgg = false := by rcases hv with ⟨_,rfl⟩ | ⟨id,rfl,_⟩ <;> rfl
 refine ⟨⟨rfl,hva⟩,?_⟩
 refine go _ ?_
 simp
 have fin : ∀ out v1,(∀ q,V.men q v1 = false) → K out ob → Xv (fresh ob) (K out) [v1] ((fresh ob,.box 96 (rV y vv)) :: ob) := fun out v1 hv1 h => by
  have hd : Xw (young (fresh ob) []) ((fresh ob,.box 96 (rV y vv)) :: ob) = ob := by
   simp only [Xw,V2,if_true]
   exact X8 (fun j hj => by have := Xz hj; simp [young]; omega)
  exact ⟨[],by simp [V.mens,hv1],by rw [hd]; exact hm [],by rw [hd]; exact h⟩
 refine Wz hP _ _ (fun hb => ?_) (fun hb => ?_)
 ·simp
  exact fin _ _ (fun q => rfl) (h1 (by simpa using hb))
 ·simp
  exact fin _ _ (fun q => rfl) (h0 (by simpa using hb))
theorem X1d {y : RSrc} (hy : y.small) {vs : List RVar} (hvl : vs.length ≤ 1000000) (hvi : Xbq y vs) {vv : V} {T : V} {tst : RTerm → Objs} (hT : ∀ z o,(∀ t,fresh (tst t) ≤ z) → TLoc T (fun t => (z,o) :: tst t)) (hv : ∀ t,VL (tst t) vs vv) (hfr : ∀ t t',fresh (tst t) = fresh (tst t')) (hnm : ∀ t t' q,noMenO q (tst t) = noMenO q (tst t')) (hks : ∀ t t',Xc (tst t) = Xc (tst t')) (t : RTerm) {K : Out → Objs → Prop}
  (h1 : ∀ t',Xwa y vs t = some t' → K (.ret (.tup [])) (tst t')) (h0 : Xwa y vs t = none → ∀ t',K (.panic (.d unD)) (tst t')) : ACall P 116 [rV y vv,T] (tst t) K := by
 refine acall_lift hP mixed Yb9 Ygz TOk.nil fun _ hm => ?_
 obtain ⟨k1,k2,k3⟩ := (hv t).shape
 have hva : vv.isAgg = false := by rcases hv t with ⟨_,rfl⟩ | ⟨id,rfl,_⟩ <;> rfl
 obtain ⟨z,hz⟩ : ∃ z,fresh (tst t) = z := ⟨_,rfl⟩
 rw [hz] at hm ⊢
 have hzt : ∀ t',fresh (tst t') = z := fun t' => by rw [hfr t' t,hz]
 have hL := hT z (.box 96 (rV y vv)) (fun t' => by rw [hzt]; exact Nat.le_refl _)
 have lv : ∀ t' out v1,(∀ q,V.men q v1 = false) → K out (tst t') → Xv z (K out) [v1] ((z,.box 96 (rV y vv)) :: tst t') := fun t' out v1 hv1 h => by
  have hd : Xw (young z []) ((z,.box 96 (rV y vv)) :: tst t') = tst t' := by
   simp only [Xw,V2,if_true]
   exact X8 (fun j hj => by have := Xz hj; rw [hzt] at this; simp [young]; omega)
  exact ⟨[],by simp [V.mens,hv1],by rw [hd,hnm t' t]; exact hm [],by rw [hd]; exact h⟩
 have lr : ∀ t',K (.ret (.tup [])) (tst t') → Xv z (K (.ret (.tup []))) [] ((z,.box 96 (rV y vv)) :: tst t') := fun t' h => by
  have hd : Xw (young z []) ((z,.box 96 (rV y vv)) :: tst t') = tst t' := by
   simp only [Xw,V2,if_true]
   exact X8 (fun j hj => by have := Xz hj; rw [hzt] at this; simp [young]; omega)
  exact ⟨[],by simp,by rw [hd,hnm t' t]; exact hm [],by rw [hd]; exact h⟩
 have hvc : ∀ t',VL ((z,.box 96 (rV y vv)) :: tst t') vs vv := fun t' => by
  rcases hv t' with h | ⟨id,e,hl⟩
  ·exact .inl h
  ·have := Xu hl
   rw [hzt] at this
   exact .inr ⟨id,e,by rw [Xn _ _ _ _ (by simp; omega)]; exact hl⟩
 by_cases hne : t.name = []
 ·simp [X8s,k1,k2,Zv,hz,hL.nmV t,hL.nmS t,hL.nil,hL.fa t 0 (by omega),hne]
  exact lr t (h1 t (by simp [Xwa,hne]))
 ·simp [X8s,k1,k2,Zv,hz,hL.nmV t,hL.nmS t,hL.nil,hL.fa t 0 (by omega),hne]
  refine ⟨Xde,?_⟩
  have hres : Xwa y vs t = match vs[(Xe RVar.name vs t.name 0).toNat]? with
   | none => none
   | some v => if Xe RVar.name vs t.name 0 < 0 ∨ Xe RField.name (fieldsOf y v) t.path 0 < 0 then none
    else some ⟨t.name,t.path,Xe RVar.name vs t.name 0,Xe RField.name (fieldsOf y v) t.path 0,t.n⟩ := by unfold Xwa; rw [if_neg hne]; all_goals rfl
  refine X1c hP hvl t.name (hvc t) (fun hi => ?_) (fun hlt => ?_)
  ·obtain ⟨i,hil,f1,f2,_⟩ := Ww hi
   obtain ⟨s,hs1,hs2⟩ := hvi _ (List.getElem_mem hil)
   have hin : ¬ (i : Int) < 0 := by omega
   rw [f1] at hres ⊢
   simp only [Int.toNat_natCast,List.getElem?_eq_getElem hil,hin,false_or] at hres
   obtain ⟨id,rfl,hl⟩ : ∃ id,vv = .sl id vs.length ∧ lookO (tst t) id = some (.arr 63 4 (vs.map RVar.enc)) := by
    rcases hv t with ⟨rfl,_⟩ | h
    ·simp at hil
    ·exact h
   have hidz : id < z := by rw [← hz]; exact Xu hl
   have ez : (z == id) = false := by simp; omega
   simp [hL.fa t 2 (by omega)]
   refine hL.stv t _ _ ?_
   have hl2 : ∀ t',lookO (tst t') id = some (.arr 63 4 (vs.map RVar.enc)) := fun t' => by
    rcases hv t' with ⟨rfl,_⟩ | ⟨id',e,h⟩
    ·simp at hil
    ·cases e; exact h
   generalize ht1 : ({ t with var := (i : Int) } : RTerm) = t1
   have tn : t1.name = t.name := by rw [← ht1]
   have tp : t1.path = t.path := by rw [← ht1]
   have tv : t1.var = i := by rw [← ht1]
   have hfo : fieldsOf y vs[i] = y.schemas[s].fields := by simp [fieldsOf,hs1,hs2]
   rw [hfo] at hres
   simp [Xxx,hL.paV t1,hL.paS t1,hL.vaV t1,hL.vaS t1,hL.nil,hL.fa t1 1 (by omega),hL.fa t1 2 (by omega),hL.fa t1 3 (by omega),tv,tp,hl2,ez,hil,RVar.enc,hs1]
   refine ⟨rfl,⟨rfl,rfl⟩,rfl,⟨rfl,rfl⟩,?_⟩
   refine Xsk hP hy.schema hy.schemas (fun hb => by omega) (fun j hj e => ?_)
   have e' : j = s := by omega
   subst e'
   rcases Zf RField.name t.path y.schemas[j].fields 0 with ⟨g1,_⟩ | ⟨k,hk,g1,_,_⟩
   ·rw [g1]
    rw [g1] at hres
    simp [Yk]
    refine Wz hP _ _ (fun hb => by cases hb) (fun hb => ?_)
    simp
    exact lv t1 _ _ (fun q => rfl) (h0 (by rw [hres]; simp) t1)
   ·simp only [Int.zero_add] at g1
    have hkn : ¬ (k : Int) < 0 := by omega
    rw [g1]
    rw [g1] at hres
    simp [Yk,hkn]
    refine Wz hP _ _ (fun hb => ?_) (fun hb => by cases hb)
    simp [hL.fa t1 3 (by omega)]
    refine hL.stf t1 _ _ ?_
    refine lr _ (h1 _ ?_)
    rw [hres,← ht1]
    simp [hkn]
  ·simp
   refine lv t _ _ (fun q => rfl) (h0 ?_ t)
   rw [hres]
   cases vs[(Xe RVar.name vs t.name 0).toNat]? with
   | none => rfl
   | some v => simp [hlt]
end
end Go.Proofs.YtmapdjjigmkbfaaGreatDoor
/- Contracts: a formula's names are resolved in place. Condition: the program is the seat's. -/
namespace Go.Sx
open Go Go.Ab Go.Lx
def fV (op n : Int) (kv : V) (a : RAtom) : V := V.mk [.d (iD op),.d (iD n),kv,.d a.enc]
section
variable {op n : Int} {kv : V} {a : RAtom}
@[simp] theorem X53 : (fV op n kv a).kids = some [.d (iD op),.d (iD n),kv,.d a.enc] := V.kids_mk _
theorem Xr : (fV op n kv a).shape = .node [.leaf,.leaf,kv.shape,.node [.leaf,.node [.leaf,.leaf,.leaf,.leaf,.leaf],.node [.leaf,.leaf,.leaf,.leaf,.leaf]]] := by rw [V.shape_kids X53]; rfl
@[simp] theorem fV_men {q : Nat → Bool} : V.men q (fV op n kv a) = V.men q kv := by rw [fV,Xox]; simp [V.mens,V.men]
@[simp] theorem X1j : (fV op n kv a).sto = kv.sto := by rw [fV,Xoy]; simp [V.stos,V.sto]
end
def Xnz (ob : Objs) (k : List RForm) (kv : V) (ids : List Nat) : Prop := (k = [] ∧ (kv = .d .nils ∨ kv = .d (.list 14 [])) ∧ ids = []) ∨ (k ≠ [] ∧ ∃ id ws is,kv = .sl id ws.length ∧ ids = id :: is ∧ lookO ob id = some (Xt ws) ∧ Za ob k ws is)
theorem Ql {ob : Objs} {f : RForm} {v : V} {ids : List Nat} : Zp ob f v ids ↔ ∃ kv,v = fV f.op f.n kv f.atom ∧ Xnz ob f.kids kv ids := by
 obtain ⟨op,n,k,a⟩ := f
 cases k with
 | nil =>
  rw [Zp]
  constructor
  ·rintro ⟨⟨z,hz,rfl⟩,rfl⟩
   refine ⟨.d z,by simp [fV,V.mk,V.allD,RForm.op,RForm.n,RForm.atom],.inl ⟨rfl,?_,rfl⟩⟩
   rcases hz with rfl | rfl
   ·exact .inl rfl
   ·exact .inr rfl
  ·rintro ⟨kv,rfl,h⟩
   rcases h with ⟨_,hz,rfl⟩ | ⟨h,_⟩
   ·refine ⟨?_,rfl⟩
    rcases hz with rfl | rfl
    ·exact ⟨_,.inl rfl,rfl⟩
    ·exact ⟨_,.inr rfl,rfl⟩
   ·exact absurd rfl h
 | cons g r =>
  rw [Vq (by simp)]
  constructor
  ·rintro ⟨id,vs,is,rfl,rfl,h1,h2⟩
   exact ⟨_,rfl,.inr ⟨by simp [RForm.kids],id,vs,is,rfl,rfl,h1,h2⟩⟩
  ·rintro ⟨kv,rfl,h⟩
   rcases h with ⟨h,_⟩ | ⟨_,id,vs,is,rfl,rfl,h1,h2⟩
   ·cases h
   ·exact ⟨id,vs,is,rfl,rfl,h1,h2⟩
theorem Xnz.leaf {ob : Objs} {k : List RForm} {kv : V} {ids : List Nat} (h : Xnz ob k kv ids) : kv.shape = .leaf ∧ kv.sto = true ∧ kv ≠ .any ∧ kv.isAgg = false := by
 rcases h with ⟨_,rfl | rfl,_⟩ | ⟨_,id,ws,is,rfl,_⟩ <;> exact ⟨rfl,rfl,by simp,rfl⟩
def V0 (q : Nat → Bool) : Ob → Bool
 | .box _ t => V.men q t
 | .vec _ _ xs => V.mens q xs
 | .map es => Jb q es
 | _ => false
theorem Y1 (q : Nat → Bool) (i : Nat) (o : Ob) (r : Objs) : noMenO q ((i,o) :: r) = (!V0 q o && noMenO q r) := by cases o <;> simp [noMenO,V0]
theorem Uh {q : Nat → Bool} {ob : Objs} {k : Nat} {o o' : Ob} (h : V0 q o = V0 q o') : noMenO q (setO ob k o) = noMenO q (setO ob k o') := by
 induction ob with
 | nil => rfl
 | cons e r ih =>
  obtain ⟨j,y⟩ := e
  simp only [setO]
  split <;> simp only [Y1,h,ih]
def Chg (ids : List Nat) : Objs → Objs → Prop
 | [],[] => True
 | (i,o) :: a,(j,o') :: b => j = i ∧ (∀ q,V0 q o' = V0 q o) ∧ (i ∉ ids → o' = o) ∧ Chg ids a b
 | _,_ => False
theorem Chg.refl (ids : List Nat) : ∀ ob : Objs,Chg ids ob ob
 | [] => trivial
 | (_,_) :: r => ⟨rfl,fun _ => rfl,fun _ => rfl,Chg.refl ids r⟩
theorem Chg.trans {ids : List Nat} : ∀ {a b c : Objs},Chg ids a b → Chg ids b c → Chg ids a c
 | [],[],[],_,_ => trivial
 | [],[],_ :: _,_,h => h.elim
 | [],_ :: _,_,h,_ => h.elim
 | _ :: _,[],_,h,_ => h.elim
 | (_,_) :: _,(_,_) :: _,[],_,h => h.elim
 | (_,_) :: _,(_,_) :: _,(_,_) :: _,⟨h1,h2,h3,h4⟩,⟨g1,g2,g3,g4⟩ => ⟨g1.trans h1,fun q => (g2 q).trans (h2 q),fun h => (g3 (by rw [h1]; exact h)).trans (h3 h),h4.trans g4⟩
theorem Chg.mono {ids js : List Nat} (hs : ∀ j ∈ ids,j ∈ js) : ∀ {a b : Objs},Chg ids a b → Chg js a b
 | [],[],_ => trivial
 | [],_ :: _,h => h.elim
 | _ :: _,[],h => h.elim
 | (_,_) :: _,(_,_) :: _,⟨h1,h2,h3,h4⟩ => ⟨h1,h2,fun h => h3 (fun e => h (hs _ e)),h4.mono hs⟩
theorem Chg.look {ids : List Nat} : ∀ {a b : Objs},Chg ids a b → ∀ j,j ∉ ids → lookO b j = lookO a j
 | [],[],_,_,_ => rfl
 | [],_ :: _,h,_,_ => h.elim
 | _ :: _,[],h,_,_ => h.elim
 | (i,o) :: a,(j,o') :: b,⟨h1,h2,h3,h4⟩,k,hk => by
  subst h1
  by_cases e : j = k
  ·subst e
   simp [h3 hk]
  ·have e' : (j == k) = false := by simpa using e
   rw [Xn _ _ _ _ e',Xn _ _ _ _ e',h4.look k hk]
theorem Chg.keys {ids : List Nat} : ∀ {a b : Objs},Chg ids a b → Xc b = Xc a
 | [],[],_ => rfl
 | [],_ :: _,h => h.elim
 | _ :: _,[],h => h.elim
 | (i,o) :: a,(j,o') :: b,⟨h1,h2,h3,h4⟩ => by have := h4.keys; simp only [Xc] at this; simp only [Xc,List.map_cons,h1,this]
theorem Chg.nm {ids : List Nat} : ∀ {a b : Objs},Chg ids a b → ∀ q,noMenO q b = noMenO q a
 | [],[],_,_ => rfl
 | [],_ :: _,h,_ => h.elim
 | _ :: _,[],h,_ => h.elim
 | (i,o) :: a,(j,o') :: b,⟨h1,h2,h3,h4⟩,q => by rw [Y1,Y1,h2 q,h4.nm q]
theorem Chg.cons {ids : List Nat} {a b : Objs} (h : Chg ids a b) (i : Nat) (o : Ob) : Chg ids ((i,o) :: a) ((i,o) :: b) := ⟨rfl,fun _ => rfl,fun _ => rfl,h⟩
theorem Chg.uncons {ids : List Nat} {a X : Objs} {i : Nat} {o : Ob} (h : Chg ids ((i,o) :: a) X) (hi : i ∉ ids) : ∃ b,X = (i,o) :: b ∧ Chg ids a b := by
 match X,h with
 | [],h => exact h.elim
 | (j,o') :: b,⟨h1,h2,h3,h4⟩ => exact ⟨b,by rw [h1,h3 hi],h4⟩
theorem Chg.set {ids : List Nat} {k : Nat} {o o' : Ob} (hk : k ∈ ids) (hm : ∀ q,V0 q o' = V0 q o) : ∀ {ob : Objs},lookO ob k = some o → Chg ids ob (setO ob k o')
 | [],h => by cases h
 | (i,x) :: r,h => by
  by_cases e : i = k
  ·subst e
   simp at h
   subst h
   rw [Xwh]
   exact ⟨rfl,hm,fun h => absurd hk h,Chg.refl _ _⟩
  ·have e' : (i == k) = false := by simpa using e
   rw [Xn _ _ _ _ e'] at h
   rw [Yo _ _ _ _ _ e']
   exact ⟨rfl,fun _ => rfl,fun _ => rfl,Chg.set hk hm h⟩
theorem Yd : ∀ {a b : Objs},Xc a = Xc b → fresh a = fresh b
 | [],[],_ => rfl
 | [],y :: b,h => by simp [Xc] at h
 | x :: a,[],h => by simp [Xc] at h
 | (i,x) :: a,(j,y) :: b,h => by
  simp only [Xc,List.map_cons,List.cons.injEq] at h
  simp only [fresh,Yd (a := a) (b := b) h.2,h.1]
structure TLoc' (T : V) (lid : Nat) (tob : RTerm → Ob) : Prop where
 nil : Jc T
 fa : ∀ ob t k,lookO ob lid = some (tob t) → k < 5 → U9 ob k k T
 nmV : ∀ ob t,lookO ob lid = some (tob t) → ldV ob (Ym 0 0 T) = .d (.str t.name)
 nmS : ∀ ob t,lookO ob lid = some (tob t) → ldS ob 1 false (Ym 0 0 T)
 paV : ∀ ob t,lookO ob lid = some (tob t) → ldV ob (Ym 1 1 T) = .d (.str t.path)
 paS : ∀ ob t,lookO ob lid = some (tob t) → ldS ob 1 false (Ym 1 1 T)
 vaV : ∀ ob t,lookO ob lid = some (tob t) → ldV ob (Ym 2 2 T) = .d (iD t.var)
 vaS : ∀ ob t,lookO ob lid = some (tob t) → ldS ob 1 false (Ym 2 2 T)
 stv : ∀ ob t x (K : V → Objs → Prop),lookO ob lid = some (tob t) → K .undef (setO ob lid (tob { t with var := x })) → stK ob 1 (.d (.int .i64 x)) K (Ym 2 2 T)
 stf : ∀ ob t x (K : V → Objs → Prop),lookO ob lid = some (tob t) → K .undef (setO ob lid (tob { t with field := x })) → stK ob 1 (.d (.int .i64 x)) K (Ym 3 3 T)
 nm : ∀ t t' q,V0 q (tob t) = V0 q (tob t')
theorem J5 {ob : Objs} {k : Nat} {o x : Ob} (h : lookO ob k = some x) : lookO (setO ob k o) k = some o := by rw [Xh ob k k ⟨_,h⟩]; simp
theorem TLoc'.loc {T : V} {lid : Nat} {tob : RTerm → Ob} (h : TLoc' T lid tob) {ob : Objs} {x : Ob} (hl : lookO ob lid = some x) (z : Nat) (o : Ob) (hz : ∀ t,fresh (setO ob lid (tob t)) ≤ z) : TLoc T (fun t => (z,o) :: setO ob lid (tob t)) := by
 have hlid := Xu hl
 have e : (z == lid) = false := by have := hz ⟨[],[],0,0,0⟩; simp at this; simp; omega
 have hk : ∀ t,lookO ((z,o) :: setO ob lid (tob t)) lid = some (tob t) := fun t => by rw [Xn _ _ _ _ e]; exact J5 hl
 have hs : ∀ t t',setO ((z,o) :: setO ob lid (tob t)) lid (tob t') = (z,o) :: setO ob lid (tob t') := fun t t' => by rw [Yo _ _ _ _ _ e,Xae]
 exact ⟨h.nil,fun t k hk' => h.fa _ t k (hk t) hk',fun t => h.nmV _ t (hk t),fun t => h.nmS _ t (hk t),fun t => h.paV _ t (hk t),fun t => h.paS _ t (hk t),fun t => h.vaV _ t (hk t),fun t => h.vaS _ t (hk t),
  fun t x K hK => h.stv _ t x K (hk t) (by rw [hs]; exact hK),fun t x K hK => h.stf _ t x K (hk t) (by rw [hs]; exact hK),fun t t' => by simp,fun t t' => by simp only [Xc,List.map_cons]; have h1 := Ya ob lid (tob t); have h2 := Ya ob lid (tob t'); simp only [Xc] at h1 h2; rw [h1,h2],fun t t' q => by rw [Y1,Y1,Uh (h.nm t t' q)]⟩
structure FLoc (L : V) (lid : Nat) (lob : Int → RAtom → Ob) (op : Int) (kv : V) : Prop where
 nil : Jc L
 fa : ∀ ob n a,lookO ob lid = some (lob n a) → U9 ob 0 0 L ∧ U9 ob 1 1 L ∧ U9 ob 2 2 L ∧ U9 ob 3 3 L ∧ U9 ob 1 1 (Ym 3 3 L) ∧ U9 ob 2 6 (Ym 3 3 L) ∧ U9 ob 0 0 (Ym 1 1 (Ym 3 3 L))
 ld : ∀ ob n a,lookO ob lid = some (lob n a) → ldV ob (Ym 0 0 L) = .d (iD op) ∧ ldS ob 1 false (Ym 0 0 L) ∧ ldV ob (Ym 2 2 L) = kv ∧ ldS ob 1 false (Ym 2 2 L) ∧ ldV ob (Ym 0 0 (Ym 1 1 (Ym 3 3 L))) = .d (.str a.a.name) ∧ ldS ob 1 false (Ym 0 0 (Ym 1 1 (Ym 3 3 L)))
 stN : ∀ ob n a x (K : V → Objs → Prop),lookO ob lid = some (lob n a) → K .undef (setO ob lid (lob x a)) → stK ob 1 (.d (.int .i64 x)) K (Ym 1 1 L)
 stA : ∀ ob n a (K : V → Objs → Prop),lookO ob lid = some (lob n a) → K .undef (setO ob lid (lob n Yt)) → stK ob 11 (.d Yt.enc) K (Ym 3 3 L)
 tA : ∀ (n : Int) (a : RAtom),TLoc' (Ym 1 1 (Ym 3 3 L)) lid (fun t => lob n { a with a := t })
 tB : ∀ (n : Int) (a : RAtom),TLoc' (Ym 2 6 (Ym 3 3 L)) lid (fun t => lob n { a with b := t })
 nm : ∀ q n a n' a',V0 q (lob n a) = V0 q (lob n' a')
 men : ∀ q,q lid = false → V.men q L = false
def Xtu (kv : V) : Prop := kv = .d .nils ∨ kv = .d (.list 14 []) ∨ ∃ id n,kv = .sl id n
theorem Xnz.kv {ob : Objs} {k : List RForm} {kv : V} {ids : List Nat} (h : Xnz ob k kv ids) : Xtu kv := by
 rcases h with ⟨_,rfl | rfl,_⟩ | ⟨_,id,ws,is,rfl,_⟩
 ·exact .inl rfl
 ·exact .inr (.inl rfl)
 ·exact .inr (.inr ⟨_,_,rfl⟩)
theorem Xtu.leaf {kv : V} (h : Xtu kv) : kv.shape = .leaf ∧ kv.sto = true ∧ kv ≠ .any ∧ kv.isAgg = false := by
 rcases h with rfl | rfl | ⟨_,_,rfl⟩ <;> exact ⟨rfl,rfl,by simp,rfl⟩
theorem Uf {q : Nat → Bool} {v v' : V} (h : V.men q v = V.men q v') : ∀ (ws : List V) (i : Nat),V.mens q (ws.set i v) = V.mens q (ws.set i v')
 | [],_ => rfl
 | _ :: _,0 => by simp [V.mens,h]
 | _ :: r,i + 1 => by simp [V.mens,Uf h r i]
theorem X56 {id m i : Nat} {ws : List V} {op : Int} {kv : V} (hm : m = ws.length) (hi : i < ws.length) (hk : Xtu kv) : FLoc (.ep id m 14 i 0 []) id (fun n a => Xt (ws.set i (fV op n kv a))) op kv := by
 subst hm
 refine ⟨by simp [Jc,U0],fun ob n a h => ?_,fun ob n a h => ?_,fun ob n a x K h hK => ?_,fun ob n a K h hK => ?_,fun n a => ?_,fun n a => ?_,fun q n a n' a' => ?_,fun q hq => by simpa [V.men] using hq⟩
 ·simp only [Xt] at h
  have k1 := hk.leaf.1
  simp [h,hi,Xr,k1]
 ·simp only [Xt] at h
  rcases hk with rfl | rfl | ⟨_,_,rfl⟩ <;> simp [h,hi,Xr,RAtom.enc,RTerm.enc]
 ·simp only [Xt] at h
  rcases hk with rfl | rfl | ⟨_,_,rfl⟩ <;> simp [stK,Xxn,X01,Xxo,h,hi,Xr,Xbv,Xt,fV,V.mk,V.allD] at hK ⊢ <;> exact hK
 ·simp only [Xt] at h
  rcases hk with rfl | rfl | ⟨_,_,rfl⟩ <;> simp [stK,Xxn,X01,Xxo,h,hi,Xr,Xbv,Xt,fV,V.mk,V.allD,RAtom.enc,RTerm.enc] at hK ⊢ <;> exact hK
 ·refine ⟨by simp [Jc,U0],fun ob t k h h5 => ?_,fun ob t h => ?_,fun ob t h => ?_,fun ob t h => ?_,fun ob t h => ?_,fun ob t h => ?_,fun ob t h => ?_,fun ob t x K h hK => ?_,fun ob t x K h hK => ?_,fun t t' q => ?_⟩
  ·simp only [Xt] at h
   rcases hk with rfl | rfl | ⟨_,_,rfl⟩ <;> rcases k with _ | _ | _ | _ | _ | k <;> first | omega | simp [h,hi,Xr,RAtom.enc,RTerm.enc]
  all_goals first | (simp only [Xt] at h; rcases hk with rfl | rfl | ⟨_,_,rfl⟩ <;> simp [h,hi,Xr,RAtom.enc,RTerm.enc]; done) | skip
  all_goals first | (simp only [Xt] at h; rcases hk with rfl | rfl | ⟨_,_,rfl⟩ <;> simp [stK,Xxn,X01,Xxo,h,hi,Xr,Xbv,Xt,fV,V.mk,V.allD,RAtom.enc,RTerm.enc] at hK ⊢ <;> exact hK) | skip
  simp only [V0,Xt]; exact Uf (by simp) _ _
 ·refine ⟨by simp [Jc,U0],fun ob t k h h5 => ?_,fun ob t h => ?_,fun ob t h => ?_,fun ob t h => ?_,fun ob t h => ?_,fun ob t h => ?_,fun ob t h => ?_,fun ob t x K h hK => ?_,fun ob t x K h hK => ?_,fun t t' q => ?_⟩
  ·simp only [Xt] at h
   rcases hk with rfl | rfl | ⟨_,_,rfl⟩ <;> rcases k with _ | _ | _ | _ | _ | k <;> first | omega | simp [h,hi,Xr,RAtom.enc,RTerm.enc]
  all_goals first | (simp only [Xt] at h; rcases hk with rfl | rfl | ⟨_,_,rfl⟩ <;> simp [h,hi,Xr,RAtom.enc,RTerm.enc]; done) | skip
  all_goals first | (simp only [Xt] at h; rcases hk with rfl | rfl | ⟨_,_,rfl⟩ <;> simp [stK,Xxn,X01,Xxo,h,hi,Xr,Xbv,Xt,fV,V.mk,V.allD,RAtom.enc,RTerm.enc] at hK ⊢ <;> exact hK) | skip
  simp only [V0,Xt]; exact Uf (by simp) _ _
 ·simp only [V0,Xt]; exact Uf (by simp) _ _
end Go.Sx
/- Plain laws of the reader of questions: what it reads is at the front; a source cut where it failed fails at its end alone; it fails there whatever follows. No program. -/
namespace Go.Sx
open Go Go.Ab Go.Lx
def R.rest {α : Type} : R α → List Tok
 | .ok _ r => r
 | .err r _ => r
def R.End {α : Type} : R α → Prop
 | .ok _ r => r = []
 | .err r _ => r = []
def R.map {α : Type} (g : Tok → Tok) : R α → R α
 | .ok a r => .ok a (r.map g)
 | .err r e => .err (r.map g) e
def Wo {α : Type} (m : M α) (pre post : List Tok) : Prop := match m (pre ++ post) with
 | .ok a r => (∃ mid,r = mid ++ post ∧ m pre = .ok a mid) ∨ (r.length < post.length ∧ (m pre).End)
 | .err r e => (∃ mid,mid ≠ [] ∧ r = mid ++ post ∧ m pre = .err mid e) ∨ (r.length ≤ post.length ∧ (m pre).End)
def Mv (g : Tok → Tok) : Prop := ∀ t,(g t).kind = t.kind ∧ (g t).text = t.text ∧ (g t).n = t.n
structure Good {α : Type} (m : M α) : Prop where
 sfx : ∀ ts,(m ts).rest <:+ ts
 loc : ∀ pre post,Wo m pre post
 mv : ∀ g,Mv g → ∀ ts,m (ts.map g) = (m ts).map g
def Xaj {α : Type} (m : M α) : Prop := ∀ ts a r,m ts = .ok a r → r.length < ts.length
section
variable {α β : Type}
theorem Good.ok {m : M α} (h : Good m) {ts r : List Tok} {a : α} (e : m ts = .ok a r) : r <:+ ts := by have := h.sfx ts; rw [e] at this; exact this
theorem Good.er {m : M α} (h : Good m) {ts r : List Tok} {e' : Int} (e : m ts = .err r e') : r <:+ ts := by have := h.sfx ts; rw [e] at this; exact this
theorem Good.end_nil {m : M α} (h : Good m) : (m []).End := by
 have := h.sfx []
 cases e : m [] with
 | ok a r => rw [e] at this; exact List.suffix_nil.1 this
 | err r x => rw [e] at this; exact List.suffix_nil.1 this
theorem Good.pure (a : α) : Good (pure a : M α) := ⟨fun ts => List.suffix_rfl,fun pre post => .inl ⟨pre,rfl,rfl⟩,fun _ _ _ => rfl⟩
theorem Good.fail (e : Int) : Good (fail e : M α) := by
 refine ⟨fun ts => List.suffix_rfl,fun pre post => ?_,fun _ _ _ => rfl⟩
 simp only [Wo,Sx.fail]
 cases pre with
 | nil => exact .inr ⟨by simp,rfl⟩
 | cons x p => exact .inl ⟨x :: p,by simp,rfl,rfl⟩
theorem Good.bind {m : M α} {f : α → M β} (hm : Good m) (hf : ∀ a,Good (f a)) : Good (m >>= f) := by
 refine ⟨fun ts => ?_,fun pre post => ?_,fun g hg ts => ?_⟩
 ·rw [Xi]
  have h1 := hm.sfx ts
  cases e : m ts with
  | ok a r => rw [e] at h1; exact ((hf a).sfx r).trans h1
  | err r x => rw [e] at h1; exact h1
 ·have h1 := hm.loc pre post
  unfold Wo at h1 ⊢
  rw [Xi]
  cases e : m (pre ++ post) with
  | ok a r =>
   rw [e] at h1
   simp only at h1 ⊢
   rcases h1 with ⟨mid,rfl,h2⟩ | ⟨h2,h3⟩
   ·have h4 := (hf a).loc mid post
    unfold Wo at h4
    rw [Xi,h2]
    exact h4
   ·have h6 : ((m >>= f) pre).End := by
     rw [Xi]
     cases e2 : m pre with
     | ok a' r' =>
      rw [e2] at h3
      simp only [R.End] at h3
      subst h3
      exact (hf a').end_nil
     | err r' x => rw [e2] at h3; exact h3
    cases e3 : f a r with
    | ok b r2 => exact .inr ⟨Nat.lt_of_le_of_lt ((hf a).ok e3).length_le h2,h6⟩
    | err r2 x => exact .inr ⟨Nat.le_of_lt (Nat.lt_of_le_of_lt ((hf a).er e3).length_le h2),h6⟩
  | err r x =>
   rw [e] at h1
   simp only at h1 ⊢
   rcases h1 with ⟨mid,h0,rfl,h2⟩ | ⟨h2,h3⟩
   ·exact .inl ⟨mid,h0,rfl,by rw [Xi,h2]⟩
   ·refine .inr ⟨h2,?_⟩
    rw [Xi]
    cases e2 : m pre with
    | ok a' r' =>
     rw [e2] at h3
     simp only [R.End] at h3
     subst h3
     exact (hf a').end_nil
    | err r' x => rw [e2] at h3; exact h3
 ·rw [Xi,Xi,hm.mv g hg ts]
  cases m ts with
  | ok a r => exact (hf a).mv g hg r
  | err r x => rfl
theorem Good.ite {c : Prop} [Decidable c] {a b : M α} (ha : Good a) (hb : Good b) : Good (if c then a else b) := by split <;> assumption
theorem Xca {g : Tok → Tok} (hg : Mv g) (k : Int) (t : B) (ts : List Tok) : Xo k t (ts.map g) = Xo k t ts := by
 cases ts with
 | nil => rfl
 | cons x r => simp only [List.map_cons,Xo,(hg x).1,(hg x).2.1]
theorem Xaj.bind {m : M α} {f : α → M β} (hm : Xaj m) (hf : ∀ a,Good (f a)) : Xaj (m >>= f) := fun ts b r h => by
 rw [Xi] at h
 cases e : m ts with
 | ok a r1 => rw [e] at h; exact Nat.lt_of_le_of_lt ((hf a).ok h).length_le (hm _ _ _ e)
 | err r1 x => rw [e] at h; cases h
theorem Good.ifN {k : Int} {t : B} {a b : M α} (ha : Good a) (he : Xaj a) (hb : Good b) : Good (fun ts => if Xo k t ts then a ts else b ts) := by
 refine ⟨fun ts => ?_,fun pre post => ?_,fun g hg ts => ?_⟩
 ·split
  ·exact ha.sfx ts
  ·exact hb.sfx ts
 ·cases pre with
  | nil =>
   have hl := hb.loc [] post
   have hn : Xo k t [] = false := rfl
   simp only [Wo,List.nil_append,hn,Bool.false_eq_true,if_false] at hl ⊢
   split
   ·rename_i x y z hc
    split at hc
    ·exact .inr ⟨he _ _ _ hc,hb.end_nil⟩
    ·rw [hc] at hl; exact hl
   ·rename_i x y z hc
    split at hc
    ·exact .inr ⟨(ha.er hc).length_le,hb.end_nil⟩
    ·rw [hc] at hl; exact hl
  | cons x p =>
   have hn : Xo k t (x :: p ++ post) = Xo k t (x :: p) := rfl
   have h1 := ha.loc (x :: p) post
   have h2 := hb.loc (x :: p) post
   cases hc : Xo k t (x :: p) with
   | true => simp only [Wo,hn,hc,if_true] at h1 ⊢; exact h1
   | false => simp only [Wo,hn,hc,Bool.false_eq_true,if_false] at h2 ⊢; exact h2
 ·simp only [Xca hg]
  split
  ·exact ha.mv g hg ts
  ·exact hb.mv g hg ts
theorem Wf {k : Int} {t : B} {f : Tok → α} (hf : ∀ g,Mv g → ∀ x,f (g x) = f x) : Good (fun ts => if Xo k t ts then .ok (f (ts.headD default)) ts.tail else .err ts 100 : M α) ∧ Xaj (fun ts => if Xo k t ts then .ok (f (ts.headD default)) ts.tail else .err ts 100 : M α) := by
 have he : Xaj (fun ts => if Xo k t ts then .ok (f (ts.headD default)) ts.tail else .err ts 100 : M α) := fun ts a r h => by
  cases ts with
  | nil => simp [Xo] at h
  | cons x p =>
   simp only at h
   split at h
   ·cases h; simp
   ·cases h
 refine ⟨⟨fun ts => ?_,fun pre post => ?_,fun g hg ts => ?_⟩,he⟩
 ·split
  ·exact List.tail_suffix _
  ·exact List.suffix_rfl
 ·cases pre with
  | nil =>
   cases hp : Xo k t post with
   | true =>
    have : post ≠ [] := by intro e; subst e; simp [Xo] at hp
    simp only [Wo,List.nil_append,hp,if_true]
    exact .inr ⟨by have := List.length_pos_iff.2 this; simp; omega,by simp [Xo,R.End]⟩
   | false =>
    simp only [Wo,List.nil_append,hp,Bool.false_eq_true,if_false]
    exact .inr ⟨Nat.le_refl _,by simp [Xo,R.End]⟩
  | cons x p =>
   have hn : Xo k t (x :: p ++ post) = Xo k t (x :: p) := rfl
   cases hp : Xo k t (x :: p) with
   | true =>
    simp only [Wo,hn,hp,if_true]
    exact .inl ⟨p,by simp,by simp⟩
   | false =>
    simp only [Wo,hn,hp,Bool.false_eq_true,if_false]
    exact .inl ⟨x :: p,by simp,by simp,rfl⟩
 ·simp only [Xca hg]
  cases ts with
  | nil => simp [Xo,R.map]
  | cons x p =>
   cases hp : Xo k t (x :: p) with
   | true => simp [R.map,hf g hg]
   | false => simp [R.map]
end
theorem Xg7 : Va = fun ts => if Xo 1 [] ts then .ok (ts.headD default).text ts.tail else .err ts 100 := by
 funext ts; simp only [Va,Xi,Ul]; cases Xo 1 [] ts <;> rfl
theorem Xhl (t : B) : W6 t = fun ts => if Xo 1 t ts then .ok () ts.tail else .err ts 100 := by
 funext ts; simp only [W6,Xi,Ul]; cases Xo 1 t ts <;> rfl
theorem Xnc (t : B) : Yn t = fun ts => if Xo 3 t ts then .ok () ts.tail else .err ts 100 := by
 funext ts; simp only [Yn,Xi,Ul]; cases Xo 3 t ts <;> rfl
theorem Yl : Good Va := by rw [Xg7]; exact (Wf (f := fun x => x.text) fun g hg x => (hg x).2.1).1
theorem U7 : Xaj Va := by rw [Xg7]; exact (Wf (f := fun x => x.text) fun g hg x => (hg x).2.1).2
theorem Wg (t : B) : Good (W6 t) := by rw [Xhl]; exact (Wf (f := fun _ => ()) fun g hg x => rfl).1
theorem Xy (t : B) : Xaj (W6 t) := by rw [Xhl]; exact (Wf (f := fun _ => ()) fun g hg x => rfl).2
theorem X4 (t : B) : Good (Yn t) := by rw [Xnc]; exact (Wf (f := fun _ => ()) fun g hg x => rfl).1
theorem Wd (t : B) : Xaj (Yn t) := by rw [Xnc]; exact (Wf (f := fun _ => ()) fun g hg x => rfl).2
theorem Ys (k : Int) (t : B) : Good (Yq k t) := by
 refine ⟨fun ts => ?_,fun pre post => ?_,fun g hg ts => ?_⟩
 ·simp only [Yq]
  split
  ·exact List.tail_suffix _
  ·exact List.suffix_rfl
 ·cases pre with
  | nil =>
   cases hp : Xo k t post with
   | true =>
    have : post ≠ [] := by intro e; subst e; simp [Xo] at hp
    simp only [Wo,Yq,List.nil_append,hp,if_true]
    exact .inr ⟨by have := List.length_pos_iff.2 this; simp; omega,by simp [Xo,R.End]⟩
   | false =>
    simp only [Wo,Yq,List.nil_append,hp,Bool.false_eq_true,if_false]
    exact .inl ⟨[],rfl,by simp [Xo]⟩
  | cons x p =>
   have hn : Xo k t (x :: p ++ post) = Xo k t (x :: p) := rfl
   cases hp : Xo k t (x :: p) with
   | true =>
    simp only [Wo,Yq,hn,hp,if_true]
    exact .inl ⟨p,by simp,by simp⟩
   | false =>
    simp only [Wo,Yq,hn,hp,Bool.false_eq_true,if_false]
    exact .inl ⟨x :: p,by simp,rfl⟩
 ·simp only [Yq,Xca hg]
  cases ts with
  | nil => simp [Xo,R.map]
  | cons x p =>
   cases hp : Xo k t (x :: p) with
   | true => simp [R.map]
   | false => simp [R.map]
theorem X3d : Xm4 = fun ts => if Xo 2 [] ts then .ok (ts.headD default).n ts.tail else .err ts 100 := by
 funext ts; simp only [Xm4,Xi,Ul]; cases Xo 2 [] ts <;> rfl
theorem Xcy : Good Xm4 := by rw [X3d]; exact (Wf (f := fun x => x.n) fun g hg x => (hg x).2.2).1
theorem Jp : Xaj Xm4 := by rw [X3d]; exact (Wf (f := fun x => x.n) fun g hg x => (hg x).2.2).2
def wB (t : B) (ts : List Tok) : Bool := Xo 1 t ts && !Xs2 ts
def Xdu {α : Type} (m : M α) : Prop := ∀ x p,x.kind = 1 → Xo 3 [46] p = true → match m (x :: p) with
 | .ok _ r => r.length < p.length
 | .err r _ => r.length ≤ p.length
section
variable {α β : Type}
theorem Good.ifM {k : Int} {t : B} {a b : M α} (ha : Good a) (he : Xaj a) (hb : Good b) : Good (ifM (Xo k t) a b) := Good.ifN ha he hb
theorem Yh6 {g : Tok → Tok} (hg : Mv g) (t : B) (ts : List Tok) : wB t (ts.map g) = wB t ts := by
 simp only [wB,Xs2,Xca hg,← List.map_tail]
theorem Good.ifW {t : B} {a b : M α} (ha : Good a) (he : Xaj a) (hb : Good b) (h1 : ∀ x,Xo 1 t [x] = true → (a [x]).End) (hd : Xdu b) : Good (Sx.ifM (wB t) a b) := by
 unfold Sx.ifM
 refine ⟨fun ts => ?_,fun pre post => ?_,fun g hg ts => ?_⟩
 ·split
  ·exact ha.sfx ts
  ·exact hb.sfx ts
 ·match pre with
  | [] =>
   have hl := hb.loc [] post
   have hn : wB t [] = false := rfl
   simp only [Wo,List.nil_append,hn,Bool.false_eq_true,if_false] at hl ⊢
   split
   ·rename_i x y z hc
    split at hc
    ·exact .inr ⟨he _ _ _ hc,hb.end_nil⟩
    ·rw [hc] at hl; exact hl
   ·rename_i x y z hc
    split at hc
    ·exact .inr ⟨(ha.er hc).length_le,hb.end_nil⟩
    ·rw [hc] at hl; exact hl
  | [x] =>
   have ha' := ha.loc [x] post
   have hb' := hb.loc [x] post
   have hn : wB t [x] = Xo 1 t [x] := by simp [wB,Xs2,Xo]
   have hn2 : wB t ([x] ++ post) = (Xo 1 t [x] && !Xo 3 [46] post) := rfl
   cases hx : Xo 1 t [x] with
   | false =>
    rw [hx] at hn hn2
    simp only [Bool.false_and] at hn2
    simp only [Wo,hn,hn2,Bool.false_eq_true,if_false] at hb' ⊢
    exact hb'
   | true =>
    rw [hx] at hn hn2
    simp only [Bool.true_and] at hn2
    cases hp : Xo 3 [46] post with
    | false =>
     rw [hp] at hn2
     simp only [Bool.not_false] at hn2
     simp only [Wo,hn,hn2,if_true] at ha' ⊢
     exact ha'
    | true =>
     rw [hp] at hn2
     simp only [Bool.not_true] at hn2
     have hk : x.kind = 1 := by
      simp only [Xo,Bool.and_eq_true,decide_eq_true_eq] at hx
      exact hx.1
     have h2 := hd x post hk hp
     have h3 := h1 x hx
     simp only [Wo,hn,hn2,if_true,Bool.false_eq_true,if_false]
     simp only [List.cons_append,List.nil_append]
     cases hm : b (x :: post) with
     | ok v r => rw [hm] at h2; exact .inr ⟨h2,h3⟩
     | err r e => rw [hm] at h2; exact .inr ⟨h2,h3⟩
  | x :: y :: p =>
   have hn : wB t (x :: y :: p ++ post) = wB t (x :: y :: p) := rfl
   have ha' := ha.loc (x :: y :: p) post
   have hb' := hb.loc (x :: y :: p) post
   cases hc : wB t (x :: y :: p) with
   | true => simp only [Wo,hn,hc,if_true] at ha' ⊢; exact ha'
   | false => simp only [Wo,hn,hc,Bool.false_eq_true,if_false] at hb' ⊢; exact hb'
 ·simp only [Yh6 hg]
  split
  ·exact ha.mv g hg ts
  ·exact hb.mv g hg ts
theorem Xdu.ifW {t : B} {a b : M α} (hd : Xdu b) : Xdu (Sx.ifM (wB t) a b) := fun x p hk hp => by
 have hw : wB t (x :: p) = false := by simp [wB,Xs2,hp]
 have := hd x p hk hp
 simpa only [Sx.ifM,hw,Bool.false_eq_true,if_false] using this
theorem Xdu.bind {m : M α} {f : α → M β} (hm : Xdu m) (hf : ∀ a,Good (f a)) : Xdu (m >>= f) := fun x p hk hp => by
 have h1 := hm x p hk hp
 rw [Xi]
 cases e : m (x :: p) with
 | ok a r =>
  rw [e] at h1
  simp only at h1 ⊢
  cases e2 : f a r with
  | ok b r2 => exact Nat.lt_of_le_of_lt ((hf a).ok e2).length_le h1
  | err r2 y => exact Nat.le_of_lt (Nat.lt_of_le_of_lt ((hf a).er e2).length_le h1)
 | err r y => rw [e] at h1; exact h1
theorem Xaj.ifM {c : List Tok → Bool} {a b : M α} (ha : Xaj a) (hb : Xaj b) : Xaj (Sx.ifM c a b) := fun ts x r h => by
 simp only [Sx.ifM] at h
 split at h
 ·exact ha _ _ _ h
 ·exact hb _ _ _ h
theorem Xah {t : B} {f : M α} (hf : Good f) (x : Tok) (hx : Xo 1 t [x] = true) : ((W6 t >>= fun _ => f) [x]).End := by
 have : (W6 t >>= fun _ => f) [x] = f [] := by rw [Xhl,Xi]; simp [hx]
 rw [this]; exact hf.end_nil
end
theorem Xti : Good Xm8 := Yl.bind fun _ => (X4 _).bind fun _ => Yl.bind fun _ => .pure _
theorem Xs6 : Xaj Xm8 := U7.bind fun _ => (X4 _).bind fun _ => Yl.bind fun _ => .pure _
theorem Jx : Good Xeb := Good.ifM (Xcy.bind fun _ => .pure _) (Jp.bind fun _ => .pure _) Xti
theorem Xs7 : Xaj Xeb := Xaj.ifM (Jp.bind fun _ => .pure _) Xs6
theorem Xku : Good opQ := (Ys _ _).bind fun _ => .ite (.pure _) ((Ys _ _).bind fun _ => .ite ((Ys _ _).bind fun _ => .pure _) ((X4 _).bind fun _ => (X4 _).bind fun _ => .pure _))
theorem Xp6 : Good Xal := Jx.bind fun _ => Xku.bind fun _ => Jx.bind fun _ => .pure _
theorem Xpx : Xaj Xal := Xs7.bind fun _ => Xku.bind fun _ => Jx.bind fun _ => .pure _
theorem Xs4 : Xdu Xm8 := fun x p hk hp => by
 cases p with
 | nil => simp [Xo] at hp
 | cons y q =>
  have hx : Xo 1 [] (x :: y :: q) = true := by simp [Xo,hk]
  have hy : Xo 3 [46] (y :: q) = true := hp
  have e : Xm8 (x :: y :: q) = (Va >>= fun b => (pure ⟨x.text,b,0,0,0⟩ : M RTerm)) q := by
   unfold Xm8
   rw [Xi,Xg7]
   simp only [hx,if_true,List.headD_cons,List.tail_cons]
   rw [Xi,Xnc]
   simp only [hy,if_true,List.tail_cons,Xg7]
  have hg : Good (Va >>= fun b => (pure ⟨x.text,b,0,0,0⟩ : M RTerm)) := Yl.bind fun _ => .pure _
  rw [e]
  cases h : (Va >>= fun b => (pure ⟨x.text,b,0,0,0⟩ : M RTerm)) q with
  | ok a r => have := (hg.ok h).length_le; simp; omega
  | err r a => have := (hg.er h).length_le; simp; omega
theorem Xs5 : Xdu Xeb := fun x p hk hp => by
 have hn : Xo 2 [] (x :: p) = false := by simp [Xo,hk]
 have := Xs4 x p hk hp
 simpa only [Xeb,ifM,hn,Bool.false_eq_true,if_false] using this
theorem Vu : Xdu Xal := Xs5.bind fun _ => Xku.bind fun _ => Jx.bind fun _ => .pure _
def Xkq (n : Nat) : M RForm :=
 ifM (wB X76) (W6 X76 >>= fun _ => Yn [123] >>= fun _ => Yu n >>= fun l => pure (.mk 1 0 l Yt))
 (ifM (wB X3q) (W6 X3q >>= fun _ => Yn [123] >>= fun _ => Yu n >>= fun l => pure (.mk 2 0 l Yt))
 (ifM (wB Q5) (W6 Q5 >>= fun _ => Xm4 >>= fun k => Yn [123] >>= fun _ => Yu n >>= fun l => pure (.mk 3 k l Yt))
 (ifM (wB Xxb) (W6 Xxb >>= fun _ => Xzo) Xal)))
theorem Xxc {α : Type} {t : B} {f : M α} {ts : List Tok} (h : Xo 1 t ts = true) : (W6 t >>= fun _ => f) ts = Xbw f ts := by
 rw [Xhl,Xi]; simp [h,Xbw]
theorem Xpj {t : B} (ht : t ≠ []) (ts : List Tok) : wB t ts = (Xd4 ts && Up t ts) := by
 cases ts with
 | nil => rfl
 | cons x p =>
  have e : Xo 1 t (x :: p) = (Xo 1 [] (x :: p) && Up t (x :: p)) := by
   rw [Bool.eq_iff_iff]
   simp [Xo,Up,ht]
  simp only [wB,Xd4,e]
  cases Xo 1 [] (x :: p) <;> cases Up t (x :: p) <;> cases Xs2 (x :: p) <;> rfl
theorem Xaw (n : Nat) : W0 (n + 1) = Xkq n := by
 funext ts
 have w1 := Xpj (t := X76) (by simp) ts
 have w2 := Xpj (t := X3q) (by simp) ts
 have w3 := Xpj (t := Q5) (by simp) ts
 have w4 := Xpj (t := Xxb) (by simp) ts
 have k1 : ∀ t,wB t ts = true → Xo 1 t ts = true := fun t h => by
  simp only [wB,Bool.and_eq_true] at h
  exact h.1
 have key : ∀ (t : B) (f b : M RForm),ifM (wB t) (W6 t >>= fun _ => f) b ts = ifM (wB t) (Xbw f) b ts := fun t f b => by
  simp only [ifM]
  cases hw : wB t ts with
  | true => simp only [if_true]; exact Xxc (k1 t hw)
  | false => rfl
 rw [W0,Xkq]
 cases hr : Xd4 ts with
 | false =>
  rw [hr] at w1 w2 w3 w4
  simp only [Bool.false_and] at w1 w2 w3 w4
  simp only [ifM,hr,w1,w2,w3,w4,Bool.false_eq_true,if_false]
 | true =>
  rw [hr] at w1 w2 w3 w4
  simp only [Bool.true_and] at w1 w2 w3 w4
  rw [key]
  simp only [ifM,hr,if_true,w1]
  cases Up X76 ts with
  | true => rfl
  | false =>
   simp only [Bool.false_eq_true,if_false]
   have := key X3q (Yn [123] >>= fun _ => Yu n >>= fun l => pure (.mk 2 0 l Yt)) (ifM (wB Q5) (W6 Q5 >>= fun _ => Xm4 >>= fun k => Yn [123] >>= fun _ => Yu n >>= fun l => pure (.mk 3 k l Yt)) (ifM (wB Xxb) (W6 Xxb >>= fun _ => Xzo) Xal))
   simp only [ifM,w2] at this ⊢
   rw [this]
   cases Up X3q ts with
   | true => rfl
   | false =>
    simp only [Bool.false_eq_true,if_false]
    have := key Q5 (Xm4 >>= fun k => Yn [123] >>= fun _ => Yu n >>= fun l => pure (.mk 3 k l Yt)) (ifM (wB Xxb) (W6 Xxb >>= fun _ => Xzo) Xal)
    simp only [ifM,w3] at this ⊢
    rw [this]
    cases Up Q5 ts with
    | true => rfl
    | false =>
     simp only [Bool.false_eq_true,if_false]
     have := key Xxb Xzo Xal
     simp only [ifM,w4] at this ⊢
     rw [this]
theorem Jw : Good Xzo := Yl.bind fun _ => .pure _
theorem Xs3 (n : Nat) : Xdu (W0 (n + 1)) := by
 rw [Xaw]
 exact Xdu.ifW (Xdu.ifW (Xdu.ifW (Xdu.ifW Vu)))
theorem Xp7 {n : Nat} (hl : Good (Yu n)) : Good (Xkq n) := by
 have g1 : Good (Yn [123] >>= fun _ => Yu n >>= fun l => (pure (.mk 1 0 l Yt) : M RForm)) := (X4 _).bind fun _ => hl.bind fun _ => .pure _
 have g2 : Good (Yn [123] >>= fun _ => Yu n >>= fun l => (pure (.mk 2 0 l Yt) : M RForm)) := (X4 _).bind fun _ => hl.bind fun _ => .pure _
 have g3 : Good (Xm4 >>= fun k => Yn [123] >>= fun _ => Yu n >>= fun l => (pure (.mk 3 k l Yt) : M RForm)) := Xcy.bind fun _ => (X4 _).bind fun _ => hl.bind fun _ => .pure _
 refine Good.ifW ((Wg _).bind fun _ => g1) ((Xy _).bind fun _ => g1) ?_ (Xah g1) (Xdu.ifW (Xdu.ifW (Xdu.ifW Vu)))
 refine Good.ifW ((Wg _).bind fun _ => g2) ((Xy _).bind fun _ => g2) ?_ (Xah g2) (Xdu.ifW (Xdu.ifW Vu))
 refine Good.ifW ((Wg _).bind fun _ => g3) ((Xy _).bind fun _ => g3) ?_ (Xah g3) (Xdu.ifW Vu)
 exact Good.ifW ((Wg _).bind fun _ => Jw) ((Xy _).bind fun _ => Jw) Xp6 (Xah Jw) Vu
theorem Xpy {n : Nat} (hl : Good (Yu n)) : Xaj (Xkq n) := by
 have g1 : Good (Yn [123] >>= fun _ => Yu n >>= fun l => (pure (.mk 1 0 l Yt) : M RForm)) := (X4 _).bind fun _ => hl.bind fun _ => .pure _
 have g2 : Good (Yn [123] >>= fun _ => Yu n >>= fun l => (pure (.mk 2 0 l Yt) : M RForm)) := (X4 _).bind fun _ => hl.bind fun _ => .pure _
 have g3 : Good (Xm4 >>= fun k => Yn [123] >>= fun _ => Yu n >>= fun l => (pure (.mk 3 k l Yt) : M RForm)) := Xcy.bind fun _ => (X4 _).bind fun _ => hl.bind fun _ => .pure _
 exact Xaj.ifM ((Xy _).bind fun _ => g1) (Xaj.ifM ((Xy _).bind fun _ => g2) (Xaj.ifM ((Xy _).bind fun _ => g3) (Xaj.ifM ((Xy _).bind fun _ => Jw) Xpx)))
theorem Xkt : ∀ n : Nat,Good (W0 n) ∧ Good (Yu n)
 | 0 => ⟨by rw [W0]; exact .fail 0,by rw [Yu]; exact .fail 0⟩
 | n + 1 => by
  obtain ⟨h1,h2⟩ := Xkt n
  refine ⟨by rw [Xaw]; exact Xp7 h2,?_⟩
  rw [Yu]
  exact (Ys _ _).bind fun _ => .ite (.pure _) (h1.bind fun _ => (X4 _).bind fun _ => h2.bind fun _ => .pure _)
theorem Xh7 (n : Nat) : Xaj (W0 n) := by
 cases n with
 | zero => rw [W0]; intro ts a r h; cases h
 | succ n => rw [Xaw]; exact Xpy (Xkt n).2
theorem Xtj : Good Xxq := (Wg _).bind fun _ => Yl.bind fun _ => Yl.bind fun _ => (Ys _ _).bind fun _ => (X4 _).bind fun _ => .pure _
theorem Xii {α : Type} {F : List RVar → M α} (hF : ∀ l,Good (F l)) (hD : ∀ l,Xdu (F l)) : ∀ n (G : List RVar → List RVar),Good (Wk n >>= fun l => F (G l))
 | 0,G => by
  have : (Wk 0 >>= fun l => F (G l)) = fail 0 := by rw [Wk]; rfl
  rw [this]; exact .fail 0
 | n + 1,G => by
  have e : (Wk (n + 1) >>= fun l => F (G l)) = ifM (wB Xng) (W6 Xng >>= fun _ => (Va >>= fun a => Va >>= fun b => Yq 1 Xpk >>= fun c => Yn [59] >>= fun _ => Wk n >>= fun l => F (G (⟨a,b,0,c⟩ :: l)))) (F (G [])) := by
   funext ts
   rw [Xi,Wk]
   have hw : wB Xng ts = Xd0 ts := rfl
   simp only [ifM,hw]
   cases Xd0 ts with
   | false => simp
   | true =>
    simp only [if_true]
    have : (Xxq >>= fun v => Wk n >>= fun l => (pure (v :: l) : M (List RVar))) >>= (fun l => F (G l)) = (W6 Xng >>= fun _ => (Va >>= fun a => Va >>= fun b => Yq 1 Xpk >>= fun c => Yn [59] >>= fun _ => Wk n >>= fun l => F (G (⟨a,b,0,c⟩ :: l)))) := by simp only [Xxq,Y8,Uz]
    rw [← this]
    rfl
  have g : Good (Va >>= fun a => Va >>= fun b => Yq 1 Xpk >>= fun c => Yn [59] >>= fun _ => Wk n >>= fun l => F (G (⟨a,b,0,c⟩ :: l))) := Yl.bind fun a => Yl.bind fun b => (Ys _ _).bind fun c => (X4 _).bind fun _ => Xii hF hD n (fun l => G (⟨a,b,0,c⟩ :: l))
  rw [e]
  exact Good.ifW ((Wg _).bind fun _ => g) ((Xy _).bind fun _ => g) (hF _) (Xah g) (hD _)
theorem Xh8 : ∀ (n : Nat) (ts r : List Tok) (l : List RVar),Wk n ts = .ok l r → r.length ≤ ts.length
 | 0,ts,r,l,h => by rw [Wk] at h; cases h
 | n + 1,ts,r,l,h => by
  rw [Wk] at h
  simp only [ifM] at h
  split at h
  ·rw [Xi] at h
   cases hv : Xxq ts with
   | err r2 x => rw [hv] at h; cases h
   | ok v r2 =>
    rw [hv] at h
    simp only at h
    rw [Xi] at h
    cases hw : Wk n r2 with
    | err r3 x => rw [hw] at h; cases h
    | ok w r3 =>
     rw [hw] at h
     simp only [Z3,R.ok.injEq] at h
     have h1 := (Xtj.ok hv).length_le
     have h2 := Xh8 n _ _ _ hw
     rw [← h.2]; omega
  ·simp only [Z3,R.ok.injEq] at h
   rw [h.2]; exact Nat.le_refl _
theorem Xoh : Good X1i := by
 refine ⟨fun ts => ?_,fun pre post => ?_,fun g hg ts => ?_⟩
 ·cases ts <;> exact List.suffix_rfl
 ·cases pre with
  | nil =>
   cases post with
   | nil => exact .inl ⟨[],rfl,rfl⟩
   | cons x p => exact .inr ⟨Nat.le_refl _,rfl⟩
  | cons x p => exact .inl ⟨x :: p,by simp,rfl,rfl⟩
 ·cases ts <;> rfl
theorem Vv (n : Nat) : Good (Vf (n + 1)) := by
 refine (Wg _).bind fun _ => Yl.bind fun a => (Wg _).bind fun _ => Yl.bind fun p => (X4 _).bind fun _ => ?_
 refine Xii (F := fun vs => W0 (n + 1) >>= fun f => Yn [59] >>= fun _ => Yn [125] >>= fun _ => X1i >>= fun _ => (pure (⟨a,0,vs,f⟩,p) : M (RQ × B))) (fun l => ?_) (fun l => ?_) (n + 1) (fun l => l)
 ·exact (Xkt _).1.bind fun _ => (X4 _).bind fun _ => (X4 _).bind fun _ => Xoh.bind fun _ => .pure _
 ·exact (Xs3 n).bind fun _ => (X4 _).bind fun _ => (X4 _).bind fun _ => Xoh.bind fun _ => .pure _
theorem Xt5 (n : Nat) : Yu (n + 1) = (Yq 3 [125] >>= fun b => if b then pure [] else W0 n >>= fun f => Yn [59] >>= fun _ => Yu n >>= fun l => pure (f :: l)) := by rw [Yu]
theorem Xxa (n : Nat) : Wk (n + 1) = ifM Xd0 (Xxq >>= fun v => Wk n >>= fun l => pure (v :: l)) (pure []) := by rw [Wk]
theorem Xtc : ∀ n : Nat,(∀ ts : List Tok,ts.length + 1 ≤ n → W0 (n + 1) ts = W0 n ts) ∧ (∀ ts : List Tok,ts.length + 2 ≤ n → Yu (n + 1) ts = Yu n ts)
 | 0 => ⟨fun ts h => by omega,fun ts h => by omega⟩
 | n + 1 => by
  obtain ⟨ih1,ih2⟩ := Xtc n
  have bnd : ∀ {α β : Type} {m : M α} {f g : α → M β} {ts : List Tok},(∀ a r,m ts = .ok a r → f a r = g a r) → (m >>= f) ts = (m >>= g) ts := fun h => by
   rw [Xi,Xi]
   split
   ·rename_i a r e; exact h a r e
   ·rfl
  refine ⟨fun ts h => ?_,fun ts h => ?_⟩
  ·rw [Xaw,Xaw,Xkq,Xkq]
   have lp : ∀ {β : Type} (F : List RForm → M β) (r : List Tok),r.length + 1 ≤ ts.length → (Yn [123] >>= fun _ => Yu (n + 1) >>= F) r = (Yn [123] >>= fun _ => Yu n >>= F) r := fun F r hr => by
    refine bnd fun _ r' e => ?_
    have := Wd _ _ _ _ e
    rw [Xi,Xi,ih2 r' (by omega)]
   simp only [ifM]
   split
   ·exact bnd fun _ r e => lp _ r (by have := Xy _ _ _ _ e; omega)
   split
   ·exact bnd fun _ r e => lp _ r (by have := Xy _ _ _ _ e; omega)
   split
   ·refine bnd fun _ r e => bnd fun k r' e' => lp _ r' ?_
    have := Xy _ _ _ _ e
    have := Jp _ _ _ e'
    omega
   ·rfl
  ·rw [Xt5 (n + 1)]
   conv => rhs; rw [Xt5 n]
   refine bnd fun b r e => ?_
   have hr := ((Ys _ _).ok e).length_le
   split
   ·rfl
   ·rw [Xi,Xi,ih1 r (by omega)]
    cases hf : W0 n r with
    | err r2 x => rfl
    | ok f r2 =>
     have h1 := Xh7 n _ _ _ hf
     refine bnd fun _ r3 e3 => ?_
     have h2 := Wd _ _ _ _ e3
     rw [Xi,Xi,ih2 r3 (by omega)]
theorem Xjw : ∀ (n : Nat) (ts : List Tok),ts.length + 1 ≤ n → Wk (n + 1) ts = Wk n ts
 | 0,ts,h => by omega
 | n + 1,ts,h => by
  rw [Xxa (n + 1)]
  conv => rhs; rw [Xxa n]
  simp only [ifM]
  split
  ·rw [Xi,Xi]
   cases hv : Xxq ts with
   | err r x => rfl
   | ok v r =>
    have : Xaj Xxq := (Xy _).bind fun _ => Yl.bind fun _ => Yl.bind fun _ => (Ys _ _).bind fun _ => (X4 _).bind fun _ => .pure _
    have := this _ _ _ hv
    simp only
    rw [Xi,Xi,Xjw n r (by omega)]
  ·rfl
theorem Xqj {n : Nat} {ts : List Tok} (h : ts.length ≤ n) : Vf (n + 1) ts = Vf n ts := by
 have bnd : ∀ {α β : Type} {m : M α} {f g : α → M β} {ts : List Tok},(∀ a r,m ts = .ok a r → f a r = g a r) → (m >>= f) ts = (m >>= g) ts := fun h => by
  rw [Xi,Xi]
  split
  ·rename_i a r e; exact h a r e
  ·rfl
 unfold Vf
 refine bnd fun _ r1 e1 => bnd fun a r2 e2 => bnd fun _ r3 e3 => bnd fun p r4 e4 => bnd fun _ r5 e5 => ?_
 have h1 := Xy _ _ _ _ e1
 have h2 := U7 _ _ _ e2
 have h3 := Xy _ _ _ _ e3
 have h4 := U7 _ _ _ e4
 have h5 := Wd _ _ _ _ e5
 rw [Xi,Xi,Xjw n r5 (by omega)]
 cases hv : Wk n r5 with
 | err r x => rfl
 | ok vs r6 =>
  have h6 := Xh8 _ _ _ _ hv
  simp only
  rw [Xi,Xi,(Xtc n).1 r6 (by omega)]
theorem Xe2 {n : Nat} {ts : List Tok} (h : ts.length ≤ n) : Vf n ts = Vf ts.length ts := by
 obtain ⟨d,rfl⟩ := Nat.exists_eq_add_of_le h
 clear h
 induction d with
 | zero => rfl
 | succ d ih => rw [← ih]; exact Xqj (Nat.le_add_right _ _)
def Yg (ts : List Tok) : R (RQ × B) := Vf (ts.length + 1) ts
theorem Xaa {n : Nat} {ts : List Tok} (h : ts.length ≤ n) : Vf n ts = Yg ts := by rw [Yg,Xe2 h,Xe2 (n := ts.length + 1) (by omega)]
theorem Xdd : ∀ ts,(Yg ts).rest <:+ ts := fun ts => (Vv _).sfx ts
theorem Xje {g : Tok → Tok} (hg : Mv g) (ts : List Tok) : Yg (ts.map g) = (Yg ts).map g := by
 have := (Vv ts.length).mv g hg ts
 unfold Yg
 rw [List.length_map]
 exact this
theorem Xv4 {pre post : List Tok} {e : Int} (h : Yg (pre ++ post) = .err post e) : (Yg pre).End := by
 have h1 := (Vv (pre ++ post).length).loc pre post
 rw [Yg] at h
 simp only [Wo,h] at h1
 rw [← Xaa (n := (pre ++ post).length + 1) (by simp; omega)]
 rcases h1 with ⟨mid,h0,h2,_⟩ | ⟨_,h3⟩
 ·have := congrArg List.length h2
  simp at this
  exact absurd this h0
 ·exact h3
theorem Xv3 {pre post : List Tok} {t : Tok} {e : Int} (h : Yg (pre ++ t :: post) = .err (t :: post) e) (post' : List Tok) : Yg (pre ++ t :: post') = .err (t :: post') e := by
 have h1 := (Vv ((pre ++ [t]) ++ post).length).loc (pre ++ [t]) post
 have e1 : (pre ++ [t]) ++ post = pre ++ t :: post := by simp
 rw [e1] at h1
 rw [Yg] at h
 simp only [Wo,e1,h] at h1
 have h2 : Yg (pre ++ [t]) = .err [t] e := by
  rw [← Xaa (n := (pre ++ t :: post).length + 1) (by simp)]
  rcases h1 with ⟨mid,h0,h2,h3⟩ | ⟨h2,_⟩
  ·have : mid = [t] := by
    have : [t] ++ post = mid ++ post := by simpa using h2
    exact (List.append_cancel_right this).symm
   rw [this] at h3; exact h3
  ·simp only [List.length_cons] at h2; omega
 have h3 := (Vv ((pre ++ [t]) ++ post').length).loc (pre ++ [t]) post'
 rw [← Xaa (n := ((pre ++ [t]) ++ post').length + 1) (by simp)] at h2
 have e2 : pre ++ t :: post' = (pre ++ [t]) ++ post' := by simp
 rw [e2,Yg]
 simp only [Wo,h2] at h3
 cases hq : Vf (((pre ++ [t]) ++ post').length + 1) ((pre ++ [t]) ++ post') with
 | ok a r =>
  rw [hq] at h3
  rcases h3 with ⟨mid,_,h4⟩ | ⟨_,h4⟩
  ·cases h4
  ·cases h4
 | err r x =>
  rw [hq] at h3
  rcases h3 with ⟨mid,_,rfl,h4⟩ | ⟨_,h4⟩
  ·cases h4; rfl
  ·cases h4
end Go.Sx
