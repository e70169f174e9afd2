/- The equations by which an abstract state is walked. Over any program; no condition. -/
import Derived.Test.YtlkpnkkgkjkmbaaDoorAb14
namespace Go.Ab
open Go
section
variable (P : Prg) (K : V → Prop) (KO : V → Objs → Prop) (Pn : V → Objs → Prop) (Q : Post) (next : Slots → Objs → Prop) (sl : Slots) (ob : Objs) (r : Slots) (ro : Objs) (v v' : V) (x y z : A) (k j n : Nat) (b c : Bool) (m m' : Int) (kd kd' : IntKind) (s s' : List UInt8) (xs : List D) (vs : List V) (d : D)
@[simp] theorem look_nil : look [] k = .any := by simp only [look]
@[simp] theorem look_eq : look ((k, v) :: r) k = v := by simp [look]
@[simp] theorem look_ne (h : (j == k) = false) : look ((j, v) :: r) k = look r k := by simp at h; simp [look, h]
@[simp] theorem lookO_nil : lookO [] k = none := by simp only [lookO]
@[simp] theorem lookO_eq (o : Ob) : lookO ((k, o) :: ro) k = some o := by simp [lookO]
@[simp] theorem lookO_ne (o : Ob) (h : (j == k) = false) : lookO ((j, o) :: ro) k = lookO ro k := by simp at h; simp [lookO, h]
@[simp] theorem setO_eq (o o' : Ob) : setO ((k, o) :: ro) k o' = (k, o') :: ro := by simp [setO]
@[simp] theorem setO_ne (o o' : Ob) (h : (j == k) = false) : setO ((j, o) :: ro) k o' = (j, o) :: setO ro k o' := by simp at h; simp [setO, h]
@[simp] theorem put_some : put sl (some k) v = (k, v) :: sl := by simp only [put]
@[simp] theorem put_none : put sl none v = sl := by simp only [put]
@[simp] theorem ev_t : A.ev sl (.t k) = look sl k := by simp only [A.ev]
@[simp] theorem ev_int : A.ev sl (.int kd m) = .d (.int kd m) := by simp only [A.ev]
@[simp] theorem ev_bool : A.ev sl (.bool b) = .d (.bool b) := by simp only [A.ev]
@[simp] theorem ev_str : A.ev sl (.str s) = .d (.str s) := by simp only [A.ev]
@[simp] theorem ev_nils : A.ev sl .nils = .d .nils := by simp only [A.ev]
@[simp] theorem ev_nili : A.ev sl .nili = .d .nili := by simp only [A.ev]
@[simp] theorem ev_nilp : A.ev sl .nilp = .d .nilp := by simp only [A.ev]
@[simp] theorem ev_nilf : A.ev sl .nilf = .d .nilf := by simp only [A.ev]
@[simp] theorem ev_fn : A.ev sl (.fn k) = .fn k [] [] := by simp only [A.ev]
-- calm operations
@[simp] theorem wp_mv : C.wp sl ob K (.mv x) = K (x.ev sl) := by simp only [C.wp]
@[simp] theorem wp_pick : C.wp sl ob K (.pick x y z) = pickK K (x.ev sl) (y.ev sl) (z.ev sl) := by simp only [C.wp]
@[simp] theorem pickK_t : pickK K (.d (.bool true)) v v' = K v := by unfold pickK; split <;> simp_all
@[simp] theorem pickK_f : pickK K (.d (.bool false)) v v' = K v' := by unfold pickK; split <;> simp_all
@[simp] theorem pickK_b (b1 b2 : Bool) : pickK K (.d (.bool b)) (.d (.bool b1)) (.d (.bool b2)) = K (.d (.bool (if b then b1 else b2))) := by simp only [pickK]
@[simp] theorem wp_not : C.wp sl ob K (.not x) = notK K (x.ev sl) := by simp only [C.wp]
@[simp] theorem notK_b : notK K (.d (.bool b)) = K (.d (.bool (!b))) := by simp only [notK]
@[simp] theorem wp_neg : C.wp sl ob K (.neg x) = negK K (x.ev sl) := by simp only [C.wp]
@[simp] theorem negK_i : negK K (.d (.int kd m)) = K (.d (.int kd (kd.wrap (0 - m)))) := by simp only [negK]
@[simp] theorem wp_bin (op : BinOp) : C.wp sl ob K (.bin op x y) = binK op K (x.ev sl) (y.ev sl) := by simp only [C.wp]
@[simp] theorem binK_i (op : BinOp) : binK op K (.d (.int kd m)) (.d (.int kd' m')) = intK op kd kd' m m' K := by simp only [binK]
@[simp] theorem binK_s (op : BinOp) : binK op K (.d (.str s)) (.d (.str s')) = strK op s s' K := by simp only [binK]
@[simp] theorem intK_add : intK .add kd kd m m' K = K (.d (.int kd (kd.wrap (m + m')))) := by simp [intK]
@[simp] theorem intK_sub : intK .sub kd kd m m' K = K (.d (.int kd (kd.wrap (m - m')))) := by simp [intK]
@[simp] theorem intK_mul : intK .mul kd kd m m' K = K (.d (.int kd (kd.wrap (m * m')))) := by simp [intK]
@[simp] theorem intK_quo : intK .quo kd kd m m' K = (m' ≠ 0 ∧ K (.d (.int kd (kd.wrap (m.tdiv m'))))) := by simp [intK]
@[simp] theorem intK_rem : intK .rem kd kd m m' K = (m' ≠ 0 ∧ K (.d (.int kd (m.tmod m')))) := by simp [intK]
@[simp] theorem intK_and : intK .and kd kd m m' K = K (.d (.int kd (bitsI .and kd m m'))) := by simp [intK]
@[simp] theorem intK_or : intK .or kd kd m m' K = K (.d (.int kd (bitsI .or kd m m'))) := by simp [intK]
@[simp] theorem intK_xor : intK .xor kd kd m m' K = K (.d (.int kd (bitsI .xor kd m m'))) := by simp [intK]
@[simp] theorem intK_shl : intK .shl kd kd' m m' K = (0 ≤ m' ∧ K (.d (.int kd (kd.wrap (m * 2 ^ (min m'.toNat kd.bits)))))) := by simp [intK]
@[simp] theorem intK_shr : intK .shr kd kd' m m' K = (0 ≤ m' ∧ K (.d (.int kd (m.fdiv (2 ^ (min m'.toNat kd.bits)))))) := by simp [intK]
@[simp] theorem intK_eql : intK .eql kd kd m m' K = K (.d (.bool (m == m'))) := by simp [intK]
@[simp] theorem intK_neq : intK .neq kd kd m m' K = K (.d (.bool (m != m'))) := by simp [intK]
@[simp] theorem intK_lss : intK .lss kd kd m m' K = K (.d (.bool (decide (m < m')))) := by simp [intK]
@[simp] theorem intK_leq : intK .leq kd kd m m' K = K (.d (.bool (decide (m ≤ m')))) := by simp [intK]
@[simp] theorem intK_gtr : intK .gtr kd kd m m' K = K (.d (.bool (decide (m' < m)))) := by simp [intK]
@[simp] theorem intK_geq : intK .geq kd kd m m' K = K (.d (.bool (decide (m' ≤ m)))) := by simp [intK]
@[simp] theorem strK_add : strK .add s s' K = (s.length + s'.length ≤ 9223372036854775807 ∧ K (.d (.str (s ++ s')))) := by simp [strK]
@[simp] theorem strK_eql : strK .eql s s' K = K (.d (.bool (s == s'))) := by simp [strK]
@[simp] theorem strK_neq : strK .neq s s' K = K (.d (.bool (s != s'))) := by simp [strK]
@[simp] theorem strK_lss : strK .lss s s' K = K (.d (.bool (Op.bytesLess s s'))) := by simp [strK]
@[simp] theorem wp_beq : C.wp sl ob K (.beq b x y) = beqK b K (x.ev sl) (y.ev sl) := by simp only [C.wp]
@[simp] theorem beqK_b (b1 b2 : Bool) : beqK b K (.d (.bool b1)) (.d (.bool b2)) = K (.d (.bool ((b1 == b2) == b))) := by simp only [beqK]
@[simp] theorem wp_isnil : C.wp sl ob K (.isnil b x) = isnilK b K (x.ev sl) := by simp only [C.wp]
@[simp] theorem isnilK_n : isnilK b K (.d .nili) = K (.d (.bool b)) := by simp only [isnilK]
@[simp] theorem isnilK_i : isnilK b K (.iface k v) = K (.d (.bool (!b))) := by simp only [isnilK]
@[simp] theorem isnilK_di : isnilK b K (.d (.iface k d)) = K (.d (.bool (!b))) := by simp only [isnilK]
@[simp] theorem wp_pnil : C.wp sl ob K (.pnil b x) = pnilK b K (x.ev sl) := by simp only [C.wp]
@[simp] theorem pnilK_n : pnilK b K (.d .nilp) = K (.d (.bool b)) := by simp only [pnilK]
@[simp] theorem pnilK_r : pnilK b K (.d (.ref d)) = K (.d (.bool (!b))) := by simp only [pnilK]
@[simp] theorem pnilK_p (p : List Nat) : pnilK b K (.ptr k p) = K (.d (.bool (!b))) := by simp only [pnilK]
@[simp] theorem wp_fnil : C.wp sl ob K (.fnil b x) = fnilK b K (x.ev sl) := by simp only [C.wp]
@[simp] theorem fnilK_n : fnilK b K (.d .nilf) = K (.d (.bool b)) := by simp only [fnilK]
@[simp] theorem fnilK_d (l1 l2 : List D) : fnilK b K (.d (.fn k l1 l2)) = K (.d (.bool (!b))) := by simp only [fnilK]
@[simp] theorem fnilK_f (l1 l2 : List V) : fnilK b K (.fn k l1 l2) = K (.d (.bool (!b))) := by simp only [fnilK]
@[simp] theorem wp_peq : C.wp sl ob K (.peq b x y) = peqK ob b K (x.ev sl) (y.ev sl) := by simp only [C.wp]
@[simp] theorem peqK_p (p q : List Nat) : peqK ob b K (.ptr k p) (.ptr j q) = (k = j ∧ p = q ∧ (∃ v, atO ob k p = some v) ∧ K (.d (.bool b))) := by simp only [peqK]
@[simp] theorem mkiV_d : mkiV k (.d d) = .d (.iface k d) := by simp only [mkiV]
@[simp] theorem mkiV_p (p : List Nat) : mkiV k (.ptr j p) = .iface k (.ptr j p) := by simp only [mkiV]
@[simp] theorem mkiV_s : mkiV k (.sl j n) = .iface k (.sl j n) := by simp only [mkiV]
@[simp] theorem mkiV_a : mkiV k (.agg vs) = .iface k (.agg vs) := by simp only [mkiV]
@[simp] theorem mkfV_eq (l1 l2 : List V) : mkfV k l1 l2 = mkfO k l1 l2 (V.allD l1) (V.allD l2) := by simp only [mkfV]
@[simp] theorem mkfO_ss (l1 l2 : List V) (m1 m2 : List D) : mkfO k l1 l2 (some m1) (some m2) = .d (.fn k m1 m2) := by simp only [mkfO]
@[simp] theorem mkfO_n1 (l1 l2 : List V) (o : Option (List D)) : mkfO k l1 l2 none o = .fn k l1 l2 := by cases o <;> simp only [mkfO]
@[simp] theorem mkfO_n2 (l1 l2 : List V) (o : Option (List D)) : mkfO k l1 l2 o none = .fn k l1 l2 := by cases o <;> simp only [mkfO]
@[simp] theorem wp_cvi : C.wp sl ob K (.cvi kd x) = cviK kd K (x.ev sl) := by simp only [C.wp]
@[simp] theorem cviK_i : cviK kd K (.d (.int kd' m)) = K (.d (.int kd (kd.wrap m))) := by simp only [cviK]
@[simp] theorem wp_cvs : C.wp sl ob K (.cvs x) = cvsK K (x.ev sl) := by simp only [C.wp]
@[simp] theorem cvsK_s : cvsK K (.d (.str s)) = K (.d (.str s)) := by simp only [cvsK]
@[simp] theorem wp_idx : C.wp sl ob K (.idx x y) = idxK K (x.ev sl) (y.ev sl) := by simp only [C.wp]
@[simp] theorem idxK_s : idxK K (.d (.str s)) (.d (.int kd m)) = ((0 ≤ m ∧ m < s.length) ∧ K (.d (.int .u8 (s.getD m.toNat 0).toNat))) := by simp only [idxK]
@[simp] theorem wp_idxA : C.wp sl ob K (.idxA n x y) = idxAK n K (x.ev sl) (y.ev sl) := by simp only [C.wp]
@[simp] theorem idxAK_l : idxAK n K (.d (.list n xs)) (.d (.int kd m)) = ((0 ≤ m ∧ m < xs.length) ∧ K (.d (.ref (xs.getD m.toNat default)))) := by simp [idxAK]
@[simp] theorem wp_idxP : C.wp sl ob K (.idxP k n x y) = idxPK ob k n K (x.ev sl) (y.ev sl) := by simp only [C.wp]
@[simp] theorem idxPK_p (p : List Nat) : idxPK ob k n K (.ptr j p) (.d (.int kd m)) = ((0 ≤ m ∧ m < k) ∧ (∃ ks, kidsO (atO ob j p) = some ks ∧ ks.length = k ∧ ∀ k ∈ ks, k.size = n) ∧ K (.ptr j (p ++ [m.toNat]))) := by simp only [idxPK]
@[simp] theorem idxPK_c : idxPK ob k n K (.d (.ref (.agg xs))) (.d (.int kd m)) = ((0 ≤ m ∧ m < k) ∧ xs.length = k ∧ (∀ x ∈ xs, x.sz = n) ∧ K (.d (.ref (xs.getD m.toNat default)))) := by simp only [idxPK]
@[simp] theorem wp_fldA : C.wp sl ob K (.fldA k n x) = fldAK ob k n K (x.ev sl) := by simp only [C.wp]
@[simp] theorem fldAK_p (p : List Nat) : fldAK ob k n K (.ptr j p) = fldAKo j p k n K (kidsO (atO ob j p)) := by simp only [fldAK]
@[simp] theorem fldAKo_s (p : List Nat) : fldAKo j p k n K (some vs) = (k < vs.length ∧ Sh.sizes ((vs.take k).map V.shape) = n ∧ K (.ptr j (p ++ [k]))) := by simp only [fldAKo]
@[simp] theorem fldAK_c : fldAK ob k n K (.d (.ref (.agg xs))) = (k < xs.length ∧ D.szs (xs.take k) = n ∧ K (.d (.ref (xs.getD k default)))) := by simp only [fldAK]
@[simp] theorem wp_fld : C.wp sl ob K (.fld k j n b x) = fldK k j n b K (x.ev sl).kids := by simp only [C.wp]
@[simp] theorem fldK_s : fldK k j n b K (some vs) = (k < vs.length ∧ Sh.sizes ((vs.take k).map V.shape) = j ∧ (vs.getD k .any).size = n ∧ (vs.getD k .any).isAgg = b ∧ K (vs.getD k .any)) := by simp only [fldK]
@[simp] theorem wp_ld : C.wp sl ob K (.ld n b x) = ldK ob n b K (x.ev sl) := by simp only [C.wp]
@[simp] theorem ldK_p (p : List Nat) : ldK ob n b K (.ptr j p) = ldKo n b K (atO ob j p) := by simp only [ldK]
@[simp] theorem ldKo_s : ldKo n b K (some v) = (v.size = n ∧ v.isAgg = b ∧ K v) := by simp only [ldKo]
@[simp] theorem ldK_c : ldK ob n b K (.d (.ref d)) = (d.sz = n ∧ (V.d d).isAgg = b ∧ K (.d d)) := by simp only [ldK]
@[simp] theorem wp_nilc : C.wp sl ob K (.nilc x) = nilcK K (x.ev sl) := by simp only [C.wp]
@[simp] theorem nilcK_p (p : List Nat) : nilcK K (.ptr j p) = K (.ptr j p) := by simp only [nilcK]
@[simp] theorem nilcK_c : nilcK K (.d (.ref d)) = K (.d (.ref d)) := by simp only [nilcK]
@[simp] theorem nilcK_f (a1 a2 : List V) : nilcK K (.fn j a1 a2) = K (.fn j a1 a2) := by simp only [nilcK]
@[simp] theorem nilcK_df (a1 a2 : List D) : nilcK K (.d (.fn j a1 a2)) = K (.d (.fn j a1 a2)) := by simp only [nilcK]
@[simp] theorem wp_lenS : C.wp sl ob K (.lenS x) = lenSK K (x.ev sl) := by simp only [C.wp]
@[simp] theorem lenSK_s : lenSK K (.d (.str s)) = K (.d (.int .i64 s.length)) := by simp only [lenSK]
@[simp] theorem wp_lenL : C.wp sl ob K (.lenL x) = lenLK ob K (x.ev sl) := by simp only [C.wp]
@[simp] theorem lenLK_l : lenLK ob K (.d (.list n xs)) = K (.d (.int .i64 xs.length)) := by simp only [lenLK]
@[simp] theorem lenLK_n : lenLK ob K (.d .nils) = K (.d (.int .i64 0)) := by simp only [lenLK]
@[simp] theorem lenLK_o : lenLK ob K (.sl j n) = ((∃ E z xs, lookO ob j = some (.arr E z xs) ∧ n = xs.length) ∧ K (.d (.int .i64 n))) := by simp only [lenLK]
@[simp] theorem wp_lenA : C.wp sl ob K (.lenA n) = K (.d (.int .i64 n)) := by simp only [C.wp]
@[simp] theorem wp_slcS (lo hi : Option A) : C.wp sl ob K (.slcS x lo hi) = slcSK (lo.map (A.ev sl)) (hi.map (A.ev sl)) K (x.ev sl) := by simp only [C.wp]
@[simp] theorem slcSK_s (lo hi : Option V) : slcSK lo hi K (.d (.str s)) = bndK s.length (fun l h => K (.d (.str ((s.take h).drop l)))) lo hi := by simp only [slcSK]
@[simp] theorem wp_slcL (lo hi : Option A) : C.wp sl ob K (.slcL n x lo hi) = slcLK n (lo.map (A.ev sl)) (hi.map (A.ev sl)) K (x.ev sl) := by simp only [C.wp]
@[simp] theorem slcLK_l (lo hi : Option V) : slcLK n lo hi K (.d (.list n xs)) = bndK xs.length (fun l h => K (.d (.list n ((xs.take h).drop l)))) lo hi := by simp [slcLK]
@[simp] theorem bndK_nn (KK : Nat → Nat → Prop) : bndK n KK none none = KK 0 n := by simp only [bndK]
@[simp] theorem bndK_sn (KK : Nat → Nat → Prop) : bndK n KK (some (.d (.int kd m))) none = ((0 ≤ m ∧ m ≤ n) ∧ KK m.toNat n) := by simp only [bndK]
@[simp] theorem bndK_ns (KK : Nat → Nat → Prop) : bndK n KK none (some (.d (.int kd m))) = ((0 ≤ m ∧ m ≤ n) ∧ KK 0 m.toNat) := by simp only [bndK]
@[simp] theorem bndK_ss (KK : Nat → Nat → Prop) : bndK n KK (some (.d (.int kd m))) (some (.d (.int kd' m'))) = ((0 ≤ m' ∧ m' ≤ n) ∧ (0 ≤ m ∧ m ≤ m') ∧ KK m.toNat m'.toNat) := by simp only [bndK]
@[simp] theorem wp_ext : C.wp sl ob K (.ext x n) = extK n K (x.ev sl) := by simp only [C.wp]
@[simp] theorem extK_t : extK n K (.tup vs) = (n < vs.length ∧ K (vs.getD n .any)) := by simp only [extK]
@[simp] theorem wp_bld (ps : List (Nat × A)) : C.wp sl ob K (.bld xs ps) = bldK (xs.map .d) (ps.map fun p => (p.1, p.2.ev sl)) fun ks => K (V.mk ks) := by simp only [C.wp]
@[simp] theorem bldK_n (KL : List V → Prop) : bldK vs [] KL = KL vs := by simp only [bldK]
@[simp] theorem bldK_c (KL : List V → Prop) (l : List (Nat × V)) : bldK vs ((k, v) :: l) KL = (k < vs.length ∧ v.shape = (vs.getD k .any).shape ∧ v ≠ .any ∧ bldK (vs.set k v) l KL) := by simp only [bldK]
@[simp] theorem wp_mkf (l l' : List A) : C.wp sl ob K (.mkf k l l') = K (mkfV k (l.map (A.ev sl)) (l'.map (A.ev sl))) := by simp only [C.wp]
@[simp] theorem wp_mki : C.wp sl ob K (.mki k x) = K (mkiV k (x.ev sl)) := by simp only [C.wp]
@[simp] theorem wp_tas : C.wp sl ob K (.tas k d x) = tasK k d K (x.ev sl) := by simp only [C.wp]
@[simp] theorem tasK_y : tasK k d K (.iface k v) = K (.tup [v, .d (.bool true)]) := by simp [tasK]
@[simp] theorem tasK_dy (d' : D) : tasK k d K (.d (.iface k d')) = K (.tup [.d d', .d (.bool true)]) := by simp [tasK]
@[simp] theorem tasK_dn (d' : D) (h : (j == k) = false) : tasK k d K (.d (.iface j d')) = K (.tup [.d d, .d (.bool false)]) := by simp at h; simp [tasK, h]
@[simp] theorem tasK_n : tasK k d K (.d .nili) = K (.tup [.d d, .d (.bool false)]) := by simp only [tasK]
-- trees
@[simp] theorem kids_agg : V.kids (.agg vs) = some vs := by simp only [V.kids]
@[simp] theorem kids_d : V.kids (.d (.agg xs)) = some (xs.map .d) := by simp only [V.kids]
@[simp] theorem kidsO_s : kidsO (some v) = v.kids := by simp only [kidsO]
def atB (p : List Nat) : Option Ob → Option V
  | some (.box _ t) => t.at p
  | _ => none
@[simp] theorem atO_b (p : List Nat) : atO ob k p = atB p (lookO ob k) := by
  unfold atO atB
  cases lookO ob k with
  | none => rfl
  | some o => cases o <;> rfl
@[simp] theorem atB_s (p : List Nat) (E : Nat) : atB p (some (.box E v)) = v.at p := by simp only [atB]
@[simp] theorem at_nil : V.at v [] = some v := by simp [V.at]
def atKid (i : Nat) (p : List Nat) : Option (List V) → Option V
  | some ks => atKid' p ks[i]?
  | none => none
where atKid' (p : List Nat) : Option V → Option V
  | some k => V.at k p
  | none => none
@[simp] theorem at_cons (p : List Nat) : V.at v (k :: p) = atKid k p v.kids := by
  simp only [V.at, atKid]
  cases v.kids with
  | none => rfl
  | some ks => simp only [atKid.atKid']; cases ks[k]? <;> rfl
@[simp] theorem atKid_s (p : List Nat) : atKid k p (some vs) = atKid.atKid' p vs[k]? := by simp only [atKid]
@[simp] theorem atKid'_s (p : List Nat) : atKid.atKid' p (some v) = V.at v p := by simp only [atKid.atKid']
@[simp] theorem set_nil : V.set v [] v' = some v' := by simp [V.set]
def setKid (i : Nat) (p : List Nat) (x : V) : Option (List V) → Option V
  | some ks => setKid1 i p x ks ks[i]?
  | none => none
where
  setKid1 (i : Nat) (p : List Nat) (x : V) (ks : List V) : Option V → Option V
  | some k => setKid2 i ks (V.set k p x)
  | none => none
  setKid2 (i : Nat) (ks : List V) : Option V → Option V
  | some k' => some (V.mk (ks.set i k'))
  | none => none
@[simp] theorem set_cons (p : List Nat) : V.set v (k :: p) v' = setKid k p v' v.kids := by
  simp only [V.set, setKid]
  cases v.kids with
  | none => rfl
  | some ks =>
    simp only [setKid.setKid1]
    cases ks[k]? with
    | none => rfl
    | some y => simp only [setKid.setKid2]; cases V.set y p v' <;> rfl
@[simp] theorem setKid_s (p : List Nat) : setKid k p v (some vs) = setKid.setKid1 k p v vs vs[k]? := by simp only [setKid]
@[simp] theorem setKid1_s (p : List Nat) : setKid.setKid1 k p v vs (some v') = setKid.setKid2 k vs (V.set v' p v) := by simp only [setKid.setKid1]
@[simp] theorem setKid2_s : setKid.setKid2 k vs (some v) = some (V.mk (vs.set k v)) := by simp only [setKid.setKid2]
@[simp] theorem allD_nil : V.allD [] = some [] := by simp [V.allD]
def consD (x : D) : Option (List D) → Option (List D)
  | some l => some (x :: l)
  | none => none
@[simp] theorem allD_cons : V.allD (.d d :: vs) = consD d (V.allD vs) := by simp only [V.allD]; cases V.allD vs <;> rfl
@[simp] theorem consD_s : consD d (some xs) = some (d :: xs) := by simp only [consD]
@[simp] theorem consD_n : consD d none = none := by simp only [consD]
@[simp] theorem allD_map : V.allD (xs.map .d) = some xs := by induction xs with | nil => rfl | cons x r ih => simp [ih]
@[simp] theorem allD_fn (a1 a2 : List V) : V.allD (.fn k a1 a2 :: vs) = none := by simp only [V.allD]
@[simp] theorem allD_sl : V.allD (.sl k n :: vs) = none := by simp only [V.allD]
@[simp] theorem allD_agg (l : List V) : V.allD (.agg l :: vs) = none := by simp only [V.allD]
@[simp] theorem allD_ifc : V.allD (.iface k v :: vs) = none := by simp only [V.allD]
@[simp] theorem allD_ptr (p : List Nat) : V.allD (.ptr k p :: vs) = none := by simp only [V.allD]
def mkO (vs : List V) : Option (List D) → V
  | some l => .d (.agg l)
  | none => .agg vs
@[simp] theorem mk_eq : V.mk vs = mkO vs (V.allD vs) := by unfold V.mk mkO; cases V.allD vs <;> rfl
@[simp] theorem mkO_s : mkO vs (some xs) = .d (.agg xs) := by simp only [mkO]
@[simp] theorem mkO_n : mkO vs none = .agg vs := by simp only [mkO]
-- sizes, shapes
attribute [simp] D.sz D.szs Sh.size Sh.sizes D.shape D.shapes V.shape V.shapes V.isAgg V.sto V.stos V.size V.men V.mens
-- operations on memory
@[simp] theorem iwp_c (e : C) : I.wp P sl ob KO Pn (.c e) = e.wp sl ob (fun v => KO v ob) := by simp only [I.wp]
@[simp] theorem iwp_box : I.wp P sl ob KO Pn (.box k x) = boxK k ob KO (x.ev sl) := by simp only [I.wp]
@[simp] theorem iwp_alloc : I.wp P sl ob KO Pn (.alloc k d) = boxK k ob KO (.d d) := by simp only [I.wp]
@[simp] theorem boxK_eq : boxK k ob KO v = (v.sto = true ∧ KO (.ptr (fresh ob) []) ((fresh ob, .box k v) :: ob)) := by simp only [boxK]
@[simp] theorem iwp_bls (ps : List (Nat × A)) : I.wp P sl ob KO Pn (.bls n xs ps) = bldK (xs.map .d) (ps.map fun p => (p.1, p.2.ev sl)) (fun ks => dK (fun l => KO (.d (.list n l)) ob) (V.allD ks)) := by simp only [I.wp]
@[simp] theorem dK_s (KD : List D → Prop) : dK KD (some xs) = KD xs := by simp only [dK]
@[simp] theorem iwp_blo (ps : List (Nat × A)) : I.wp P sl ob KO Pn (.blo j n xs ps) = bldK (xs.map .d) (ps.map fun p => (p.1, p.2.ev sl)) (fun ks => dK (fun l => KO (.sl (fresh ob) l.length) ((fresh ob, .arr j n l) :: ob)) (V.allD ks)) := by simp only [I.wp]
@[simp] theorem iwp_st : I.wp P sl ob KO Pn (.st n x y) = stK ob n (y.ev sl) KO (x.ev sl) := by simp only [I.wp]
@[simp] theorem stK_p (p : List Nat) : stK ob n v KO (.ptr k p) = stKo ob k p n v KO (lookO ob k) := by simp only [stK]
@[simp] theorem stKo_s (p : List Nat) (t : V) (E : Nat) : stKo ob k p n v KO (some (.box E t)) = stKt ob k p n E v t KO (t.at p) := by simp only [stKo]
def stKs (ob : Objs) (id E : Nat) (K : V → Objs → Prop) : Option V → Prop
  | some t' => K .undef (setO ob id (.box E t'))
  | none => False
@[simp] theorem stKt_s (p : List Nat) (t : V) (E : Nat) : stKt ob k p n E v t KO (some v') = (v.shape = v'.shape ∧ v'.size = n ∧ v.sto = true ∧ stKs ob k E KO (t.set p v)) := by
  simp only [stKt]; cases t.set p v <;> simp [stKs]
@[simp] theorem stKs_s (E : Nat) : stKs ob k E KO (some v) = KO .undef (setO ob k (.box E v)) := by simp only [stKs]
@[simp] theorem iwp_app (E sz B : Nat) : I.wp P sl ob KO Pn (.app E sz B x y) = srcK sz (fun ys => appK E sz B ob ys KO (x.ev sl)) (y.ev sl) := by simp only [I.wp]
@[simp] theorem srcK_l (KD : List D → Prop) : srcK n KD (.d (.list n xs)) = KD xs := by simp [srcK]
@[simp] theorem srcK_n (KD : List D → Prop) : srcK n KD (.d .nils) = KD [] := by simp only [srcK]
@[simp] theorem appK_s (E sz B : Nat) : appK E sz B ob xs KO (.sl k n) = appKo k E sz B n ob xs KO (lookO ob k) := by simp [appK]
@[simp] theorem appK_n (E sz B : Nat) : appK E sz B ob xs KO (.d .nils) = ((2 * xs.length + 192) * B ≤ 281474976710656 ∧ KO (.sl (fresh ob) xs.length) ((fresh ob, .arr E sz xs) :: ob)) := by simp only [appK]
@[simp] theorem appKo_s (E sz B : Nat) (ys : List D) : appKo k E sz B n ob xs KO (some (.arr E sz ys)) = (n = ys.length ∧ (2 * (ys.length + xs.length) + 192) * B ≤ 281474976710656 ∧ KO (.sl k (ys.length + xs.length)) (setO ob k (.arr E sz (ys ++ xs)))) := by simp [appKo]
@[simp] theorem iwp_appS (E B : Nat) : I.wp P sl ob KO Pn (.appS E B x y) = srcSK (fun ys => appK E 1 B ob ys KO (x.ev sl)) (y.ev sl) := by simp only [I.wp]
@[simp] theorem srcSK_s (KD : List D → Prop) : srcSK KD (.d (.str s)) = KD (bytesD s) := by simp only [srcSK]
@[simp] theorem iwp_mvf : I.wp P sl ob KO Pn (.mvf x) = givK KO (V.giv ob (x.ev sl)) := by simp only [I.wp]
@[simp] theorem givK_s : givK KO (some (d, ob)) = KO (.d d) ob := by simp only [givK]
@[simp] theorem iwp_ldf : I.wp P sl ob KO Pn (.ldf n b x) = ldfK n b ob KO (x.ev sl) := by simp only [I.wp]
@[simp] theorem ldfK_p (p : List Nat) : ldfK n b ob KO (.ptr k p) = ldfKo n b ob KO (atO ob k p) := by simp only [ldfK]
@[simp] theorem ldfKo_s : ldfKo n b ob KO (some v) = (v.size = n ∧ v.isAgg = b ∧ givK KO (V.giv ob v)) := by simp only [ldfKo]
@[simp] theorem iwp_mvg (E sz : Nat) (p : List Nat) : I.wp P sl ob KO Pn (.mvg E sz y x p) = mvgK ob E sz p (y.ev sl) KO (x.ev sl) := by simp only [I.wp]
@[simp] theorem mvgK_p (E sz : Nat) (p q : List Nat) : mvgK ob E sz p v KO (.ptr k q) = mvgKt ob k (q ++ p) E sz v KO (lookO ob k) := by simp only [mvgK]
@[simp] theorem mvgKt_s (E E0 sz : Nat) (p : List Nat) (t : V) : mvgKt ob k p E sz v KO (some (.box E0 t)) = (t.at p = some (.d .nils) ∧ mvgKs ob k E0 E sz v KO (t.set p (.sl (fresh ob) 0))) := by simp only [mvgKt]
@[simp] theorem mvgKs_s (E E0 sz : Nat) (t : V) : mvgKs ob k E0 E sz v KO (some t) = KO v ((fresh ob, .arr E sz []) :: setO ob k (.box E0 t)) := by simp only [mvgKs]
@[simp] theorem iwp_cvb : I.wp P sl ob KO Pn (.cvb x) = cvbK ob KO (x.ev sl) := by simp only [I.wp]
@[simp] theorem cvbK_s : cvbK ob KO (.sl k n) = cvbKo k n ob KO (lookO ob k) := by simp only [cvbK]
@[simp] theorem cvbKo_s (E sz : Nat) : cvbKo k n ob KO (some (.arr E sz xs)) = (sz ≠ 0 ∧ n = xs.length ∧ xs ≠ [] ∧ KO (.d (.list sz xs)) (setO ob k .gone)) := by simp only [cvbKo]
@[simp] theorem wp_usd : C.wp sl ob K (.usd x) = usdK ob K (x.ev sl) := by simp only [C.wp]
@[simp] theorem usdK_s : usdK ob K (.sl k n) = ((∃ E sz xs, lookO ob k = some (.arr E sz xs) ∧ sz ≠ 0 ∧ n = xs.length ∧ xs ≠ []) ∧ K (.sd k n)) := by simp only [usdK]
@[simp] theorem usdK_n : usdK ob K (.d .nils) = K (.d .nilp) := by simp only [usdK]
@[simp] theorem iwp_ustr (E : Nat) : I.wp P sl ob KO Pn (.ustr E x y) = ustrK E ob KO (x.ev sl) (y.ev sl) := by simp only [I.wp]
@[simp] theorem ustrK_s (E : Nat) : ustrK E ob KO (.sd k n) (.d (.int .i64 m)) = ustrKo k n m E ob KO (lookO ob k) := by simp only [ustrK]
@[simp] theorem ustrK_n (E : Nat) : ustrK E ob KO (.d .nilp) (.d (.int .i64 m)) = (m = 0 ∧ KO (.d (.str [])) ob) := by simp only [ustrK]
@[simp] theorem ustrKo_s (E E' sz : Nat) : ustrKo k n m E ob KO (some (.arr E' sz xs)) = (E' = E ∧ sz = 1 ∧ n = xs.length ∧ m = n ∧ n ≤ 9223372036854775807 ∧ xs ≠ [] ∧ ∃ s, xs = bytesD s ∧ KO (.d (.str s)) (setO ob k .gone)) := by simp only [ustrKo]
-- values given up
@[simp] theorem giv_d : V.giv ob (.d d) = some (d, ob) := by simp only [V.giv]
@[simp] theorem giv_sl : V.giv ob (.sl k n) = givO ob k n (lookO ob k) := by simp only [V.giv]
@[simp] theorem givO_s (E sz : Nat) : givO ob k n (some (.arr E sz xs)) = if sz ≠ 0 ∧ n = xs.length then some (.list sz xs, setO ob k .gone) else none := by simp only [givO]
@[simp] theorem giv_agg : V.giv ob (.agg vs) = aggO (V.givs ob vs) := by simp only [V.giv]
@[simp] theorem giv_ifc : V.giv ob (.iface k v) = ifcO k (V.giv ob v) := by simp only [V.giv]
@[simp] theorem giv_ptr (p : List Nat) : V.giv ob (.ptr k p) = none := by simp only [V.giv]
@[simp] theorem giv_fn (l1 l2 : List V) : V.giv ob (.fn k l1 l2) = none := by simp only [V.giv]
@[simp] theorem givs_nil : V.givs ob [] = some ([], ob) := by simp only [V.givs]
def bindO (r : List V) : Option (D × Objs) → Option (List D × Objs)
  | some (x, ob1) => consO x (V.givs ob1 r)
  | none => none
@[simp] theorem givs_cons : V.givs ob (v :: vs) = bindO vs (V.giv ob v) := by
  simp only [V.givs]; cases V.giv ob v with
  | none => rfl
  | some q => obtain ⟨y, ob1⟩ := q; rfl
@[simp] theorem bindO_s : bindO vs (some (d, ob)) = consO d (V.givs ob vs) := by simp only [bindO]
@[simp] theorem bindO_n : bindO vs none = none := by simp only [bindO]
@[simp] theorem consO_s (l : List D) : consO d (some (l, ob)) = some (d :: l, ob) := by simp only [consO]
@[simp] theorem consO_n : consO d none = none := by simp only [consO]
@[simp] theorem aggO_s (l : List D) : aggO (some (l, ob)) = some (.agg l, ob) := by simp only [aggO]
@[simp] theorem aggO_n : aggO none = none := by simp only [aggO]
@[simp] theorem ifcO_s : ifcO k (some (d, ob)) = some (.iface k d, ob) := by simp only [ifcO]
@[simp] theorem ifcO_n : ifcO k none = none := by simp only [ifcO]
@[simp] theorem givsK_s (KD : List D → Objs → Prop) (l : List D) : givsK KD (some (l, ob)) = KD l ob := by simp only [givsK]
@[simp] theorem gvsK_nil (KL : List V → Objs → Prop) : gvsK [] ob KL = KL [] ob := by simp only [gvsK]
@[simp] theorem gvsK_cons (KL : List V → Objs → Prop) : gvsK (v :: vs) ob KL = gvO v ob (fun v' ob' => gvsK vs ob' fun vs ob'' => KL (v' :: vs) ob'') (V.giv ob v) := by simp only [gvsK]
@[simp] theorem gvO_s : gvO v ob KO (some (d, ro)) = KO (.d d) ro := by simp only [gvO]
@[simp] theorem gvO_n : gvO v ob KO none = KO v ob := by simp only [gvO]
-- names
@[simp] theorem fresh_nil : fresh [] = 0 := by simp only [fresh]
@[simp] theorem fresh_cons (o : Ob) : fresh ((k, o) :: ro) = if fresh ro ≤ k then k + 1 else fresh ro := by simp only [fresh]
@[simp] theorem fresh_set (o : Ob) : fresh (setO ob k o) = fresh ob := by
  induction ob with
  | nil => simp [setO]
  | cons e r ih => obtain ⟨i, y⟩ := e; simp only [setO]; split <;> simp [fresh, ih]
@[simp] theorem fresh_ne (h : (lookO ob k).isSome = true) : (fresh ob == k) = false := by
  rw [beq_eq_false_iff_ne]; intro e; rw [← e, fresh_none] at h; cases h
@[simp] theorem fresh_add_ne (h : (lookO ob k).isSome = true) : (fresh ob + n == k) = false := by
  rw [beq_eq_false_iff_ne]; intro e; rw [← e, fresh_look ob _ (by omega)] at h; cases h
@[simp] theorem fresh_ne' (h : (lookO ob k).isSome = true) : (k == fresh ob) = false := by
  rw [beq_eq_false_iff_ne]; intro e; rw [e, fresh_none] at h; cases h
@[simp] theorem fresh_add_ne' (h : (lookO ob k).isSome = true) : (k == fresh ob + n) = false := by
  rw [beq_eq_false_iff_ne]; intro e; rw [e, fresh_look ob _ (by omega)] at h; cases h
@[simp] theorem lookO_fresh : lookO ob (fresh ob) = none := fresh_none ob
@[simp] theorem lookO_fresh_add : lookO ob (fresh ob + n) = none := fresh_look ob _ (by omega)
@[simp] theorem lookO_set_eq (o : Ob) (h : (lookO ob k).isSome = true) : lookO (setO ob k o) k = some o := by
  rw [lookO_setO ob k k (Option.isSome_iff_exists.1 h)]; simp
@[simp] theorem lookO_set_ne (o : Ob) (h : (j == k) = false) : lookO (setO ob j o) k = lookO ob k := by
  by_cases hs : (lookO ob j).isSome = true
  · rw [lookO_setO ob j k (Option.isSome_iff_exists.1 hs)]; simp at h; rw [if_neg (fun e => h e.symm)]
  · have hn : lookO ob j = none := by simpa using hs
    have : ∀ (ob : Objs), lookO ob j = none → setO ob j o = ob := fun ob => by
      induction ob with
      | nil => intro _; rfl
      | cons e r ih => obtain ⟨i, y⟩ := e; intro h; simp only [lookO] at h; split at h; cases h; rename_i hne; simp [setO, hne, ih h]
    rw [this ob hn]
@[simp] theorem setO_set (o o' : Ob) : setO (setO ob k o) k o' = setO ob k o' := by
  induction ob with
  | nil => rfl
  | cons e r ih =>
    obtain ⟨i, y⟩ := e
    by_cases h : i = k
    · subst h; simp [setO]
    · simp [setO, h, ih]
theorem setO_look (o : Ob) (h : lookO ob k = some o) : setO ob k o = ob := by
  induction ob with
  | nil => rfl
  | cons e r ih =>
    obtain ⟨i, y⟩ := e
    simp only [lookO] at h
    split at h
    · rename_i e; cases h; simp [setO, e]
    · rename_i e; simp [setO, e, ih h]
-- young objects dropped
@[simp] theorem young_lt (l : List Nat) (h : k < n) : young n l k = false := by simp [young]; omega
@[simp] theorem young_old (l : List Nat) (h : (lookO ob k).isSome = true) : young (fresh ob) l k = false := by
  have : k < fresh ob := by
    rcases Nat.lt_or_ge k (fresh ob) with h1 | h1
    · exact h1
    · rw [fresh_look ob k h1] at h; cases h
  simp [young]; omega
@[simp] theorem young_self : young n [] n = true := by simp [young]
@[simp] theorem young_add : young n [] (n + k) = true := by simp [young]
@[simp] theorem drop_young (l : List Nat) : dropO (young (fresh ob) l) ob = ob := by
  have : ∀ (n : Nat) (ob : Objs), fresh ob ≤ n → dropO (young n l) ob = ob := fun n ob => by
    induction ob with
    | nil => intro _; rfl
    | cons e r ih =>
      obtain ⟨i, y⟩ := e
      intro h
      simp only [fresh] at h
      have hi : i < n ∧ fresh r ≤ n := by split at h <;> omega
      simp only [dropO, young_lt i n l hi.1, Bool.false_eq_true, if_false, ih hi.2]
  exact this _ ob (Nat.le_refl _)
@[simp] theorem drop_young_set (l : List Nat) (o : Ob) : dropO (young (fresh ob) l) (setO ob k o) = setO ob k o := by
  rw [← fresh_set ob k o]; exact drop_young _ _
@[simp] theorem drop_young_set2 (l : List Nat) (o o' : Ob) : dropO (young (fresh ob) l) (setO (setO ob k o) j o') = setO (setO ob k o) j o' := by
  rw [← fresh_set ob k o]; exact drop_young_set _ _ _ _
theorem noMenO_set_box (ids : Nat → Bool) (E : Nat) (h : noMenO ids ob = true) (hv : V.men ids v = false) : noMenO ids (setO ob k (.box E v)) = true := by
  induction ob with
  | nil => rfl
  | cons e r ih =>
    obtain ⟨i, y⟩ := e
    simp only [setO]
    split
    · cases y <;> simp_all [noMenO]
    · cases y <;> simp_all [noMenO]
theorem noMenO_set_arr (ids : Nat → Bool) (E z : Nat) (h : noMenO ids ob = true) : noMenO ids (setO ob k (.arr E z xs)) = true := by
  induction ob with
  | nil => rfl
  | cons e r ih =>
    obtain ⟨i, y⟩ := e
    simp only [setO]
    split
    · cases y <;> simp_all [noMenO]
    · cases y <;> simp_all [noMenO]
theorem men_look (ids : Nat → Bool) (E : Nat) (h : noMenO ids ob = true) (hl : lookO ob k = some (.box E v)) : V.men ids v = false := noMenO_look ob k E v h hl
@[simp] theorem iwp_call (l : List A) : I.wp P sl ob KO Pn (.call k l) = ACall P k (l.map (A.ev sl)) ob (outK KO Pn) := by simp only [I.wp]
@[simp] theorem iwp_callv (l : List A) : I.wp P sl ob KO Pn (.callv x l) = callvK P (l.map (A.ev sl)) ob KO Pn (x.ev sl) := by simp only [I.wp]
@[simp] theorem callvK_f (a1 a2 : List V) : callvK P vs ob KO Pn (.fn k a1 a2) = (callable P.p k = true ∧ ACall P k (a1 ++ vs ++ a2) ob (outK KO Pn)) := by simp only [callvK]
@[simp] theorem callvK_df (a1 a2 : List D) : callvK P vs ob KO Pn (.d (.fn k a1 a2)) = (callable P.p k = true ∧ ACall P k (a1.map .d ++ vs ++ a2.map .d) ob (outK KO Pn)) := by simp only [callvK]
@[simp] theorem outK_r : outK KO Pn (.ret v) ob = KO v ob := by simp only [outK]
@[simp] theorem outK_p : outK KO Pn (.panic v) ob = Pn v ob := by simp only [outK]
@[simp] theorem iwp_panic : I.wp P sl ob KO Pn (.panic x) = panicK ob Pn (x.ev sl) := by simp only [I.wp]
@[simp] theorem panicK_i : panicK ob Pn (.iface k v) = Pn (.iface k v) ob := by simp only [panicK]
@[simp] theorem panicK_d : panicK ob Pn (.d (.iface k d)) = Pn (.d (.iface k d)) ob := by simp only [panicK]
@[simp] theorem iwp_b2s : I.wp P sl ob KO Pn (.b2s x) = b2sK (fun v => KO v ob) (x.ev sl) := by simp only [I.wp]
@[simp] theorem b2sK_l : b2sK K (.d (.list n xs)) = (n = 1 ∧ ∃ s, xs = bytesD s ∧ K (.d (.str s))) := by simp only [b2sK]
@[simp] theorem iwp_s2b : I.wp P sl ob KO Pn (.s2b x) = s2bK (fun v => KO v ob) (x.ev sl) := by simp only [I.wp]
@[simp] theorem s2bK_s : s2bK K (.d (.str s)) = K (.d (.list 1 (bytesD s))) := by simp only [s2bK]
@[simp] theorem iwp_nilo (E sz : Nat) : I.wp P sl ob KO Pn (.nilo E sz x) = niloK E sz ob KO (x.ev sl) := by simp only [I.wp]
@[simp] theorem niloK_n (E sz : Nat) : niloK E sz ob KO (.d .nils) = KO (.sl (fresh ob) 0) ((fresh ob, .arr E sz []) :: ob) := by simp only [niloK]
-- regions and statements
@[simp] theorem rwp_nil (KS : Slots → Objs → Prop) (PS : V → Slots → Objs → Prop) : rwp P KS PS [] sl ob = KS sl ob := by simp only [rwp]
@[simp] theorem rwp_op (KS : Slots → Objs → Prop) (PS : V → Slots → Objs → Prop) (dd : Option Nat) (i : I) (l : List It) : rwp P KS PS (.op dd i :: l) sl ob = i.wp P sl ob (fun v ob' => rwp P KS PS l (put sl dd v) ob') (fun v ob' => PS v sl ob') := by simp only [rwp]
@[simp] theorem rwp_gop (KS : Slots → Objs → Prop) (PS : V → Slots → Objs → Prop) (dd : Option Nat) (i : I) (l : List It) : rwp P KS PS (.gop k b dd i :: l) sl ob =
    gdK k b sl (fun sl => i.wp P sl ob (fun v ob' => rwp P KS PS l (put sl dd v) ob') (fun v ob' => PS v sl ob')) (fun sl => rwp P KS PS l (put sl dd .undef) ob) (look sl k) := by simp only [rwp]
@[simp] theorem gdK_tt (Y N : Slots → Prop) : gdK k true sl Y N (.d (.bool true)) = Y ((k, .d (.bool true)) :: sl) := by simp [gdK]
@[simp] theorem gdK_ff (Y N : Slots → Prop) : gdK k false sl Y N (.d (.bool false)) = Y ((k, .d (.bool false)) :: sl) := by simp [gdK]
@[simp] theorem gdK_tf (Y N : Slots → Prop) : gdK k true sl Y N (.d (.bool false)) = N ((k, .d (.bool false)) :: sl) := by simp [gdK]
@[simp] theorem gdK_ft (Y N : Slots → Prop) : gdK k false sl Y N (.d (.bool true)) = N ((k, .d (.bool true)) :: sl) := by simp [gdK]
@[simp low] theorem gdK_b (Y N : Slots → Prop) : gdK k c sl Y N (.d (.bool b)) = ((b = c → Y ((k, .d (.bool c)) :: sl)) ∧ (b = !c → N ((k, .d (.bool (!c))) :: sl))) := by simp only [gdK]
@[simp] theorem gdK_u (Y N : Slots → Prop) : gdK k c sl Y N .undef = N sl := by simp only [gdK]
@[simp] theorem keepS_nil : keepS sl [] = [] := by simp only [keepS]
@[simp] theorem keepS_cons (l : List Nat) : keepS sl (k :: l) = (k, look sl k) :: keepS sl l := by simp only [keepS]
@[simp] theorem cwp_rg (l : List It) (od kp pk : List Nat) : cwp P (.rg od l kp pk) Q sl ob = rwp P (fun sl ob => Q .normal (keepS sl kp) ob) (fun v sl ob => Q (.panic v) (keepS sl pk) ob) l sl ob := by simp only [cwp]
@[simp] theorem iwp_pcall (l : List A) : I.wp P sl ob KO Pn (.pcall k l) = PCall P k (l.map (A.ev sl)) ob (fun v => KO v ob) := by simp only [I.wp]
@[simp] theorem cwp_seq (s1 s2 : S) : cwp P (.seq s1 s2) Q sl ob = cwp P s1 (thenK (cwp P s2 Q) Q) sl ob := by simp only [cwp]
@[simp] theorem cwp_skip : cwp P .skip Q sl ob = Q .normal sl ob := by simp only [cwp]
@[simp] theorem cwp_cond (s1 s2 : S) : cwp P (.cond x s1 s2) Q sl ob = condK (cwp P s1 Q sl ob) (cwp P s2 Q sl ob) (x.ev sl) := by simp only [cwp]
@[simp] theorem condK_t (Y N : Prop) : condK Y N (.d (.bool true)) = Y := by simp [condK]
@[simp] theorem condK_f (Y N : Prop) : condK Y N (.d (.bool false)) = N := by simp [condK]
@[simp low] theorem condK_b (Y N : Prop) : condK Y N (.d (.bool b)) = ((b = true → Y) ∧ (b = false → N)) := by simp only [condK]
@[simp] theorem cwp_block (s1 : S) : cwp P (.block n s1) Q sl ob = cwp P s1 (blockK n Q) sl ob := by simp only [cwp]
@[simp] theorem cwp_loop (kp : List Nat) (s1 : S) : cwp P (.loop kp s1) Q sl ob = ALoop kp (cwp P s1) Q sl ob := by simp only [cwp]
@[simp] theorem cwp_exit : cwp P (.exit n) Q sl ob = Q (.exit n) sl ob := by simp only [cwp]
@[simp] theorem cwp_ret : cwp P .ret Q sl ob = Q .ret sl ob := by simp only [cwp]
@[simp] theorem thenK_n : thenK next Q .normal sl ob = next sl ob := by simp only [thenK]
@[simp] theorem thenK_e : thenK next Q (.exit n) sl ob = Q (.exit n) sl ob := by simp only [thenK]
@[simp] theorem thenK_r : thenK next Q .ret sl ob = Q .ret sl ob := by simp only [thenK]
@[simp] theorem thenK_p : thenK next Q (.panic v) sl ob = Q (.panic v) sl ob := by simp only [thenK]
@[simp] theorem blockK_n : blockK n Q .normal sl ob = Q .normal sl ob := by simp only [blockK]
@[simp] theorem blockK_e : blockK n Q (.exit n) sl ob = Q .normal sl ob := by simp [blockK]
@[simp] theorem blockK_ne (h : (j == n) = false) : blockK n Q (.exit j) sl ob = Q (.exit j) sl ob := by simp at h; simp [blockK, h]
@[simp] theorem blockK_r : blockK n Q .ret sl ob = Q .ret sl ob := by simp only [blockK]
@[simp] theorem blockK_p : blockK n Q (.panic v) sl ob = Q (.panic v) sl ob := by simp only [blockK]
attribute [simp] noMenS noMenO dropO
-- results
@[simp] theorem pureQ_n (rs : List RV) : pureQ rs K .normal sl ob = resK sl ob rs fun vs => givsK (fun l _ => K (retV (l.map .d))) (V.givs ob vs) := by simp only [pureQ]
@[simp] theorem pureQ_r (rs : List RV) : pureQ rs K .ret sl ob = resK sl ob rs fun vs => givsK (fun l _ => K (retV (l.map .d))) (V.givs ob vs) := by simp only [pureQ]
@[simp] theorem pureQ_e (rs : List RV) : pureQ rs K (.exit n) sl ob = False := by simp only [pureQ]
@[simp] theorem pureQ_p (rs : List RV) : pureQ rs K (.panic v) sl ob = False := by simp only [pureQ]
@[simp] theorem callQ_n (rs : List RV) (KU : Out → Objs → Prop) : callQ n rs KU .normal sl ob = resK sl ob rs fun vs => gvsK vs ob fun vs ob => leaveK n (KU (.ret (retV vs))) vs ob := by simp only [callQ]
@[simp] theorem callQ_r (rs : List RV) (KU : Out → Objs → Prop) : callQ n rs KU .ret sl ob = resK sl ob rs fun vs => gvsK vs ob fun vs ob => leaveK n (KU (.ret (retV vs))) vs ob := by simp only [callQ]
@[simp] theorem callQ_e (rs : List RV) (KU : Out → Objs → Prop) : callQ n rs KU (.exit k) sl ob = False := by simp only [callQ]
@[simp] theorem callQ_p (rs : List RV) (KU : Out → Objs → Prop) : callQ n rs KU (.panic v) sl ob = leaveK n (KU (.panic v)) [v] ob := by simp only [callQ]
@[simp] theorem resK_nil (KL : List V → Prop) : resK sl ob [] KL = KL [] := by simp only [resK]
@[simp] theorem resK_t (KL : List V → Prop) (rs : List RV) : resK sl ob (.t k :: rs) KL = resK sl ob rs fun vs => KL (look sl k :: vs) := by simp only [resK, RV.wp]
@[simp] theorem resK_c (KL : List V → Prop) (rs : List RV) : resK sl ob (.c k n b :: rs) KL = ldK ob n b (fun v => resK sl ob rs fun vs => KL (v :: vs)) (look sl k) := by simp only [resK, RV.wp]
@[simp] theorem retV_1 : retV [v] = v := by simp only [retV]
@[simp] theorem retV_0 : retV [] = .tup [] := by simp only [retV]
@[simp] theorem retV_2 : retV (v :: v' :: vs) = .tup (v :: v' :: vs) := by simp only [retV]
@[simp] theorem argS_nil : argS k [] = [] := by simp only [argS]
@[simp] theorem argS_cons : argS k (v :: vs) = (k, v) :: argS (k + 1) vs := by simp only [argS]
end

@[congr] theorem I_wp_congr {P : Prg} {sl : Slots} {ob : Objs} {KO : V → Objs → Prop} {Pn : V → Objs → Prop} {i : I} : I.wp P sl ob KO Pn i = I.wp P sl ob KO Pn i := rfl
@[congr] theorem C_wp_congr {sl : Slots} {ob : Objs} {K : V → Prop} {e : C} : C.wp sl ob K e = C.wp sl ob K e := rfl
@[congr] theorem rwp_congr {P : Prg} {KS : Slots → Objs → Prop} {PS : V → Slots → Objs → Prop} {l : List It} {sl : Slots} {ob : Objs} : rwp P KS PS l sl ob = rwp P KS PS l sl ob := rfl
@[congr] theorem gdK_congr {k : Nat} {b : Bool} {sl : Slots} {Y N : Slots → Prop} {v v' : V} (h0 : v = v') : gdK k b sl Y N v = gdK k b sl Y N v' := by rw [h0]
@[congr] theorem condK_congr {Y N : Prop} {v v' : V} (h0 : v = v') : condK Y N v = condK Y N v' := by rw [h0]
@[congr] theorem pickK_congr {K : V → Prop} {u u' : V} {v v' : V} {w w' : V} (h0 : u = u') (h1 : v = v') (h2 : w = w') : pickK K u v w = pickK K u' v' w' := by rw [h0, h1, h2]
@[congr] theorem notK_congr {K : V → Prop} {v v' : V} (h0 : v = v') : notK K v = notK K v' := by rw [h0]
@[congr] theorem negK_congr {K : V → Prop} {v v' : V} (h0 : v = v') : negK K v = negK K v' := by rw [h0]
@[congr] theorem cvsK_congr {K : V → Prop} {v v' : V} (h0 : v = v') : cvsK K v = cvsK K v' := by rw [h0]
@[congr] theorem nilcK_congr {K : V → Prop} {v v' : V} (h0 : v = v') : nilcK K v = nilcK K v' := by rw [h0]
@[congr] theorem lenSK_congr {K : V → Prop} {v v' : V} (h0 : v = v') : lenSK K v = lenSK K v' := by rw [h0]
@[congr] theorem b2sK_congr {K : V → Prop} {v v' : V} (h0 : v = v') : b2sK K v = b2sK K v' := by rw [h0]
@[congr] theorem s2bK_congr {K : V → Prop} {v v' : V} (h0 : v = v') : s2bK K v = s2bK K v' := by rw [h0]
@[congr] theorem binK_congr {op : BinOp} {K : V → Prop} {u u' : V} {v v' : V} (h0 : u = u') (h1 : v = v') : binK op K u v = binK op K u' v' := by rw [h0, h1]
@[congr] theorem intK_congr {op : BinOp} {k j : IntKind} {K : V → Prop} {a a' : Int} {b b' : Int} (h0 : a = a') (h1 : b = b') : intK op k j a b K = intK op k j a' b' K := by rw [h0, h1]
@[congr] theorem strK_congr {op : BinOp} {K : V → Prop} {a a' : List UInt8} {b b' : List UInt8} (h0 : a = a') (h1 : b = b') : strK op a b K = strK op a' b' K := by rw [h0, h1]
@[congr] theorem beqK_congr {e : Bool} {K : V → Prop} {u u' : V} {v v' : V} (h0 : u = u') (h1 : v = v') : beqK e K u v = beqK e K u' v' := by rw [h0, h1]
@[congr] theorem isnilK_congr {e : Bool} {K : V → Prop} {v v' : V} (h0 : v = v') : isnilK e K v = isnilK e K v' := by rw [h0]
@[congr] theorem cviK_congr {k : IntKind} {K : V → Prop} {v v' : V} (h0 : v = v') : cviK k K v = cviK k K v' := by rw [h0]
@[congr] theorem idxK_congr {K : V → Prop} {u u' : V} {v v' : V} (h0 : u = u') (h1 : v = v') : idxK K u v = idxK K u' v' := by rw [h0, h1]
@[congr] theorem idxAK_congr {n : Nat} {K : V → Prop} {u u' : V} {v v' : V} (h0 : u = u') (h1 : v = v') : idxAK n K u v = idxAK n K u' v' := by rw [h0, h1]
@[congr] theorem idxPK_congr {ob : Objs} {k n : Nat} {K : V → Prop} {u u' : V} {v v' : V} (h0 : u = u') (h1 : v = v') : idxPK ob k n K u v = idxPK ob k n K u' v' := by rw [h0, h1]
@[congr] theorem fldAK_congr {ob : Objs} {k n : Nat} {K : V → Prop} {v v' : V} (h0 : v = v') : fldAK ob k n K v = fldAK ob k n K v' := by rw [h0]
@[congr] theorem fldAKo_congr {j : Nat} {p : List Nat} {k n : Nat} {K : V → Prop} {v v' : Option (List V)} (h0 : v = v') : fldAKo j p k n K v = fldAKo j p k n K v' := by rw [h0]
@[congr] theorem fldK_congr {k j n : Nat} {b : Bool} {K : V → Prop} {v v' : Option (List V)} (h0 : v = v') : fldK k j n b K v = fldK k j n b K v' := by rw [h0]
@[congr] theorem ldK_congr {ob : Objs} {n : Nat} {b : Bool} {K : V → Prop} {v v' : V} (h0 : v = v') : ldK ob n b K v = ldK ob n b K v' := by rw [h0]
@[congr] theorem ldKo_congr {n : Nat} {b : Bool} {K : V → Prop} {v v' : Option V} (h0 : v = v') : ldKo n b K v = ldKo n b K v' := by rw [h0]
@[congr] theorem lenLK_congr {ob : Objs} {K : V → Prop} {v v' : V} (h0 : v = v') : lenLK ob K v = lenLK ob K v' := by rw [h0]
@[congr] theorem bndK_congr {n : Nat} {KK : Nat → Nat → Prop} {u u' : Option V} {v v' : Option V} (h0 : u = u') (h1 : v = v') : bndK n KK u v = bndK n KK u' v' := by rw [h0, h1]
@[congr] theorem slcSK_congr {K : V → Prop} {l l' : Option V} {h h' : Option V} {v v' : V} (h0 : l = l') (h1 : h = h') (h2 : v = v') : slcSK l h K v = slcSK l' h' K v' := by rw [h0, h1, h2]
@[congr] theorem slcLK_congr {n : Nat} {K : V → Prop} {l l' : Option V} {h h' : Option V} {v v' : V} (h0 : l = l') (h1 : h = h') (h2 : v = v') : slcLK n l h K v = slcLK n l' h' K v' := by rw [h0, h1, h2]
@[congr] theorem extK_congr {n : Nat} {K : V → Prop} {v v' : V} (h0 : v = v') : extK n K v = extK n K v' := by rw [h0]
@[congr] theorem bldK_congr {KL : List V → Prop} {u u' : List V} {l l' : List (Nat × V)} (h0 : u = u') (h1 : l = l') : bldK u l KL = bldK u' l' KL := by rw [h0, h1]
@[congr] theorem tasK_congr {k : Nat} {d : D} {K : V → Prop} {v v' : V} (h0 : v = v') : tasK k d K v = tasK k d K v' := by rw [h0]
@[congr] theorem boxK_congr {k : Nat} {ob : Objs} {KO : V → Objs → Prop} {v v' : V} (h0 : v = v') : boxK k ob KO v = boxK k ob KO v' := by rw [h0]
@[congr] theorem stK_congr {ob : Objs} {n : Nat} {KO : V → Objs → Prop} {u u' : V} {v v' : V} (h0 : u = u') (h1 : v = v') : stK ob n u KO v = stK ob n u' KO v' := by rw [h0, h1]
@[congr] theorem stKo_congr {ob : Objs} {k : Nat} {p : List Nat} {n : Nat} {u : V} {KO : V → Objs → Prop} {v v' : Option Ob} (h0 : v = v') : stKo ob k p n u KO v = stKo ob k p n u KO v' := by rw [h0]
@[congr] theorem stKt_congr {ob : Objs} {k : Nat} {p : List Nat} {n E : Nat} {u t : V} {KO : V → Objs → Prop} {v v' : Option V} (h0 : v = v') : stKt ob k p n E u t KO v = stKt ob k p n E u t KO v' := by rw [h0]
@[congr] theorem stKs_congr {ob : Objs} {k E : Nat} {KO : V → Objs → Prop} {v v' : Option V} (h0 : v = v') : stKs ob k E KO v = stKs ob k E KO v' := by rw [h0]
@[congr] theorem dK_congr {KD : List D → Prop} {v v' : Option (List D)} (h0 : v = v') : dK KD v = dK KD v' := by rw [h0]
@[congr] theorem callvK_congr {P : Prg} {ob : Objs} {KO : V → Objs → Prop} {Pn : V → Objs → Prop} {u u' : List V} {v v' : V} (h0 : u = u') (h1 : v = v') : callvK P u ob KO Pn v = callvK P u' ob KO Pn v' := by rw [h0, h1]
@[congr] theorem panicK_congr {ob : Objs} {Pn : V → Objs → Prop} {v v' : V} (h0 : v = v') : panicK ob Pn v = panicK ob Pn v' := by rw [h0]
@[congr] theorem srcK_congr {n : Nat} {KD : List D → Prop} {v v' : V} (h0 : v = v') : srcK n KD v = srcK n KD v' := by rw [h0]
@[congr] theorem appK_congr {E sz B : Nat} {ob : Objs} {xs : List D} {KO : V → Objs → Prop} {v v' : V} (h0 : v = v') : appK E sz B ob xs KO v = appK E sz B ob xs KO v' := by rw [h0]
@[congr] theorem appKo_congr {k E sz B n : Nat} {ob : Objs} {xs : List D} {KO : V → Objs → Prop} {v v' : Option Ob} (h0 : v = v') : appKo k E sz B n ob xs KO v = appKo k E sz B n ob xs KO v' := by rw [h0]
@[congr] theorem niloK_congr {E sz : Nat} {ob : Objs} {KO : V → Objs → Prop} {v v' : V} (h0 : v = v') : niloK E sz ob KO v = niloK E sz ob KO v' := by rw [h0]
@[congr] theorem srcSK_congr {KD : List D → Prop} {v v' : V} (h0 : v = v') : srcSK KD v = srcSK KD v' := by rw [h0]
@[congr] theorem pnilK_congr {e : Bool} {K : V → Prop} {v v' : V} (h0 : v = v') : pnilK e K v = pnilK e K v' := by rw [h0]
@[congr] theorem fnilK_congr {e : Bool} {K : V → Prop} {v v' : V} (h0 : v = v') : fnilK e K v = fnilK e K v' := by rw [h0]
@[congr] theorem peqK_congr {ob : Objs} {e : Bool} {K : V → Prop} {u u' v v' : V} (h1 : u = u') (h0 : v = v') : peqK ob e K u v = peqK ob e K u' v' := by rw [h0, h1]
@[congr] theorem givK_congr {KO : V → Objs → Prop} {v v' : Option (D × Objs)} (h0 : v = v') : givK KO v = givK KO v' := by rw [h0]
@[congr] theorem givsK_congr {KO : List D → Objs → Prop} {v v' : Option (List D × Objs)} (h0 : v = v') : givsK KO v = givsK KO v' := by rw [h0]
@[congr] theorem gvO_congr {u : V} {ob : Objs} {KO : V → Objs → Prop} {v v' : Option (D × Objs)} (h0 : v = v') : gvO u ob KO v = gvO u ob KO v' := by rw [h0]
@[congr] theorem gvsK_congr {KL : List V → Objs → Prop} {u u' : List V} {ob ob' : Objs} (h0 : u = u') (h1 : ob = ob') : gvsK u ob KL = gvsK u' ob' KL := by rw [h0, h1]
@[congr] theorem leaveK_congr {n : Nat} {K : Objs → Prop} {u u' : List V} {ob ob' : Objs} (h0 : u = u') (h1 : ob = ob') : leaveK n K u ob = leaveK n K u' ob' := by rw [h0, h1]
@[congr] theorem ldfK_congr {n : Nat} {b : Bool} {ob : Objs} {KO : V → Objs → Prop} {v v' : V} (h0 : v = v') : ldfK n b ob KO v = ldfK n b ob KO v' := by rw [h0]
@[congr] theorem ldfKo_congr {n : Nat} {b : Bool} {ob : Objs} {KO : V → Objs → Prop} {v v' : Option V} (h0 : v = v') : ldfKo n b ob KO v = ldfKo n b ob KO v' := by rw [h0]
@[congr] theorem mvgK_congr {ob : Objs} {E sz : Nat} {p : List Nat} {KO : V → Objs → Prop} {u u' v v' : V} (h1 : u = u') (h0 : v = v') : mvgK ob E sz p u KO v = mvgK ob E sz p u' KO v' := by rw [h0, h1]
@[congr] theorem mvgKt_congr {ob : Objs} {k E sz : Nat} {p p' : List Nat} {KO : V → Objs → Prop} {u : V} {v v' : Option Ob} (h1 : p = p') (h0 : v = v') : mvgKt ob k p E sz u KO v = mvgKt ob k p' E sz u KO v' := by rw [h0, h1]
@[congr] theorem mvgKs_congr {ob : Objs} {k E0 E sz : Nat} {KO : V → Objs → Prop} {u : V} {v v' : Option V} (h0 : v = v') : mvgKs ob k E0 E sz u KO v = mvgKs ob k E0 E sz u KO v' := by rw [h0]
@[congr] theorem cvbK_congr {ob : Objs} {KO : V → Objs → Prop} {v v' : V} (h0 : v = v') : cvbK ob KO v = cvbK ob KO v' := by rw [h0]
@[congr] theorem cvbKo_congr {k n : Nat} {ob : Objs} {KO : V → Objs → Prop} {v v' : Option Ob} (h0 : v = v') : cvbKo k n ob KO v = cvbKo k n ob KO v' := by rw [h0]
@[congr] theorem usdK_congr {ob : Objs} {K : V → Prop} {v v' : V} (h0 : v = v') : usdK ob K v = usdK ob K v' := by rw [h0]
@[congr] theorem ustrK_congr {E : Nat} {ob : Objs} {KO : V → Objs → Prop} {u u' v v' : V} (h1 : u = u') (h0 : v = v') : ustrK E ob KO u v = ustrK E ob KO u' v' := by rw [h0, h1]
@[congr] theorem ustrKo_congr {k n : Nat} {m : Int} {E : Nat} {ob : Objs} {KO : V → Objs → Prop} {v v' : Option Ob} (h0 : v = v') : ustrKo k n m E ob KO v = ustrKo k n m E ob KO v' := by rw [h0]
@[congr] theorem resK_congr {sl : Slots} {ob : Objs} {rs : List RV} {KL : List V → Prop} : resK sl ob rs KL = resK sl ob rs KL := rfl
@[congr] theorem ACall_congr {P : Prg} {f : Nat} {vs vs' : List V} {ob ob' : Objs} {K : Out → Objs → Prop} (h : vs = vs') (h' : ob = ob') : ACall P f vs ob K = ACall P f vs' ob' K := by rw [h, h']
@[congr] theorem PCall_congr {P : Prg} {f : Nat} {vs vs' : List V} {ob ob' : Objs} {K : V → Prop} (h : vs = vs') (h' : ob = ob') : PCall P f vs ob K = PCall P f vs' ob' K := by rw [h, h']
@[congr] theorem ALoop_congr {keep : List Nat} {body : Post → Slots → Objs → Prop} {Q : Post} {sl sl' : Slots} {ob ob' : Objs} (h : sl = sl') (h' : ob = ob') : ALoop keep body Q sl ob = ALoop keep body Q sl' ob' := by rw [h, h']

/-- A loop, by a family of states at its head. -/
theorem ALoop.of {keep : List Nat} {body : Post → Slots → Objs → Prop} {Q : Post} {sl : Slots} {ob : Objs} {ι : Type} (S : ι → Slots) (O : ι → Objs) (I : ι → Prop) (μ : ι → Nat) (i0 : ι) (h0 : I i0) (hs : keepS sl keep = S i0) (ho : ob = O i0)
    (step : ∀ i, I i → body (thenK (sub keep (fresh (O i)) fun sl' ob' => ∃ j, I j ∧ μ j < μ i ∧ sl' = S j ∧ ob' = O j) Q) (S i) (O i)) : ALoop keep body Q sl ob :=
  ⟨⟨ι, S, O, I, μ, i0, h0, hs, ho, step⟩⟩

/-- The same, what follows behind a letter: 'rn' goes on, at the next state of the family; what the round made is dropped, but for the names in kp. -/
theorem ALoop.go {keep : List Nat} {body : Post → Slots → Objs → Prop} {Q : Post} {sl : Slots} {ob : Objs} {ι : Type} (S : ι → Slots) (O : ι → Objs) (I : ι → Prop) (μ : ι → Nat) (i0 : ι) (h0 : I i0) (hs : keepS sl keep = S i0) (ho : ob = O i0)
    (step : ∀ i, I i → ∀ R : Post, (∀ kp j sl' ob', I j → μ j < μ i → keepS sl' keep = S j → dropO (young (fresh (O i)) kp) ob' = O j → noMenS (young (fresh (O i)) kp) (S j) = true → noMenO (young (fresh (O i)) kp) (O j) = true → R .normal sl' ob') →
      (∀ n sl' ob', Q (.exit n) sl' ob' → R (.exit n) sl' ob') → (∀ sl' ob', Q .ret sl' ob' → R .ret sl' ob') → (∀ v sl' ob', Q (.panic v) sl' ob' → R (.panic v) sl' ob') → body R (S i) (O i)) : ALoop keep body Q sl ob := by
  refine ALoop.of S O I μ i0 h0 hs ho fun i hi => step i hi _ (fun kp j sl' ob' h1 h2 h3 h4 h5 h6 => ?_) (fun _ _ _ h => h) (fun _ _ h => h) (fun _ _ _ h => h)
  simp only [thenK, sub]
  refine ⟨kp, ?_⟩
  rw [h3, h4]
  exact ⟨h5, h6, j, h1, h2, rfl, rfl⟩
@[congr] theorem cwp_congr {P : Prg} {s : S} {Q : Post} {sl sl' : Slots} {ob ob' : Objs} (h : sl = sl') (h' : ob = ob') : cwp P s Q sl ob = cwp P s Q sl' ob' := by rw [h, h']
end Go.Ab
