/- Texts of this claim, joined: B18 O1 O3. -/
import Derived.ProofKit
import Derived.OpenShut
import Derived.ChangeOld
import Derived.Below
import Derived.Lib.SmallJoins
import Derived.Deep.Slices
import Derived.Deep.Fields
import Derived.ChangeSame
import Derived.ChangeMaps5
import Derived.Test.YtifonmdcicegdaaGreatQz
set_option linter.unusedVariables false
set_option linter.unusedSimpArgs false
namespace Go.Proofs.YtifonmdcicegdaaGreat
open Go Go.RowKit

noncomputable def sp_klong : Spec := { q := .un, ps := [tW32], rs := [.bo], fresh := true, pre := fun _ _ => none, post := fun _ x => ((), (isLong x.1.length, ())) }
noncomputable def iv_klong (y : El sp_klong.q) (x : Els sp_klong.ps) : Nat → Option Inv := fun _ => none
noncomputable abbrev c_klong : Cfg := cfgS (Tryz.f133).ntmps false []
def F_klong (y : El sp_klong.q) (x : Els sp_klong.ps) : Prop :=
  (decide ((↑(List.length x.fst) : Int) > (60 : Int)) = true → (decide ((↑(List.length x.fst) : Int) ≤ (2048 : Int)) = true → (true, ()) = (isLong (List.length x.fst), ())) ∧ (decide ((↑(List.length x.fst) : Int) ≤ (2048 : Int)) = false → (decide ((↑(List.length x.fst) : Int) ≥ (2057 : Int)), ()) = (isLong (List.length x.fst), ()))) ∧ (decide ((↑(List.length x.fst) : Int) > (60 : Int)) = false → (false, ()) = (isLong (List.length x.fst), ()))
set_option maxRecDepth 100000 in
theorem w_klong (y : El sp_klong.q) (x : Els sp_klong.ps) : aw c_klong (iv_klong y x) (codeOf Tryz.f133) 0 (retQ c_klong sp_klong (Tryz.f133).results.toList y x) (startT sp_klong x) (startO sp_klong y) 1 = F_klong y x := by kernel_rfl
theorem m_klong (y : El (.un)) (x : Els [tW32]) (h2 : wfE (.un) y) (h3 : wfEs [tW32] x) : F_klong y x := by
  unfold F_klong
  unfold isLong
  refine ⟨fun h => ⟨fun k => ?_, fun k => ?_⟩, fun h => ?_⟩
  · have h := gtT h
    have k := leT k
    rw [decide_eq_true ⟨by omega, .inl (by omega)⟩]
  · have h := gtT h
    have k := leF k
    refine congrArg (fun b => (b, ())) ?_
    rw [Bool.eq_iff_iff, decide_eq_true_eq, decide_eq_true_eq]
    omega
  · have h := gtF h
    rw [decide_eq_false (by omega)]
set_option maxRecDepth 100000 in
theorem fo_klong : FnOk Tryz.prog 133 sp_klong := fnOk_of (C := c_klong) iv_klong Tryz.func133 rfl (by kernel_rfl) tys_ok prims_nil mixed_ (Nat.le_refl _) rfl fun y x h1 h2 h3 h4 =>
  Eq.mpr (w_klong y x) (m_klong y x h2 h3)
def lngF (f : Fr) : Bool := isLong f.num.length || isLong f.den.length
def lngG (a : Ga) : Bool := lngF a.re || lngF a.im
def longs (l : List (El tR)) : Bool := l.any fun f => lngF (toFr f)
def longGs (l : List (El tG)) : Bool := l.any fun g => lngG (toGa g)
theorem any_at {α : Type} {f : α → Bool} {l : List α} {i : Nat} (h : i < l.length) (d : α) (k : f (l.getD i d) = true) : l.any f = true := by
  rw [List.getD_eq_getElem?_getD, List.getElem?_eq_getElem h] at k
  rw [List.any_eq_true]
  exact ⟨l[i], List.getElem_mem h, k⟩
theorem any_take {α : Type} {f : α → Bool} {l : List α} {i : Nat} (h : i < l.length) (d : α) (k : (l.take i).any f = false) (m : f (l.getD i d) = false) : (l.take (i + 1)).any f = false := by
  rw [List.getD_eq_getElem?_getD, List.getElem?_eq_getElem h] at m
  rw [List.take_add_one, List.getElem?_eq_getElem h, Option.toList_some, List.any_append, k]
  simpa using m
noncomputable def sp_kLong : Spec := { q := .un, ps := [.sl tR], rs := [.bo], fresh := true, pre := fun _ _ => none, post := fun _ x => ((), (longs x.1, ())) }
noncomputable def iv_kLong (y : El sp_kLong.q) (x : Els sp_kLong.ps) : Nat → Option Inv := fun k => if k = 0 then some { X := Nat, tm := fun i => [(0, .c (.sl tR x.1)), (3, .c (.sc (.int .i64 i)))], ob := fun _ => [], n := 1, I := fun i => i ≤ x.1.length ∧ longs (x.1.take i) = false, μ := fun i => x.1.length - i } else none
noncomputable abbrev c_kLong : Cfg := cfgS (Tryz.f12).ntmps false [(133, sp_klong.prim)]
def F_kLong (y : El sp_kLong.q) (x : Els sp_kLong.ps) : Prop :=
  (∃ (x_1 : Nat), x.fst = x.fst ∧ (↑x_1 : Int) = (0 : Int) ∧ x_1 ≤ List.length x.fst ∧ longs (List.take x_1 x.fst) = false) ∧ ∀ (x_1 : Nat), x_1 ≤ List.length x.fst ∧ longs (List.take x_1 x.fst) = false → (decide ((↑x_1 : Int) < (↑(List.length x.fst) : Int)) = true → ((0 : Int) ≤ (↑x_1 : Int) ∧ (↑x_1 : Int) < (↑(List.length x.fst) : Int)) ∧ ∀ (r : El Ty.un × Els [Ty.bo]), r = ((), isLong (List.length (List.getD x.fst (↑x_1 : Int).toNat (dfl tR)).snd.fst), ()) → (r.snd.fst = true → (true, ()) = (longs x.fst, ())) ∧ (r.snd.fst = false → ((0 : Int) ≤ (↑x_1 : Int) ∧ (↑x_1 : Int) < (↑(List.length x.fst) : Int)) ∧ ∀ (r : El Ty.un × Els [Ty.bo]), r = ((), isLong (List.length (List.getD x.fst (↑x_1 : Int).toNat (dfl tR)).snd.snd.fst), ()) → (r.snd.fst = true → (true, ()) = (longs x.fst, ())) ∧ (r.snd.fst = false → ((-9223372036854775808 : Int) ≤ (↑x_1 : Int) + (1 : Int) ∧ (↑x_1 : Int) + (1 : Int) ≤ (9223372036854775807 : Int)) ∧ ∃ (x' : Nat), x.fst = x.fst ∧ (↑x' : Int) = (↑x_1 : Int) + (1 : Int) ∧ (x' ≤ List.length x.fst ∧ longs (List.take x' x.fst) = false) ∧ List.length x.fst - x' < List.length x.fst - x_1))) ∧ (decide ((↑x_1 : Int) < (↑(List.length x.fst) : Int)) = false → (false, ()) = (longs x.fst, ()))
set_option maxRecDepth 100000 in
theorem w_kLong (y : El sp_kLong.q) (x : Els sp_kLong.ps) : aw c_kLong (iv_kLong y x) (codeOf Tryz.f12) 0 (retQ c_kLong sp_kLong (Tryz.f12).results.toList y x) (startT sp_kLong x) (startO sp_kLong y) 1 = F_kLong y x := by kernel_rfl
theorem m_kLong (y : El (.un)) (x : Els [.sl tR]) (h2 : wfE (.un) y) (h3 : wfEs [.sl tR] x) : F_kLong y x := by
  unfold F_kLong
  have hL : x.1.length ≤ 9223372036854775807 := h3.1.1
  refine ⟨⟨0, rfl, rfl, Nat.zero_le _, rfl⟩, fun i hi => ⟨fun h => ?_, fun h => ?_⟩⟩
  · obtain ⟨i0, i1⟩ := hi
    have h := ltT h
    have il : i < x.1.length := by omega
    refine ⟨⟨by omega, h⟩, ?_⟩
    rw [Int.toNat_natCast]
    rintro _ rfl
    refine ⟨fun k => ?_, fun k => ⟨⟨by omega, h⟩, ?_⟩⟩
    · have k : isLong (toFr (x.1.getD i (dfl tR))).num.length = true := k
      have : longs x.1 = true := any_at (f := fun f => lngF (toFr f)) il (dfl tR) (by show lngF _ = true; unfold lngF; rw [k]; rfl)
      rw [this]
    rintro _ rfl
    refine ⟨fun m => ?_, fun m => ⟨⟨by omega, by omega⟩, i + 1, rfl, rfl, ⟨il, ?_⟩, by omega⟩⟩
    · have m : isLong (toFr (x.1.getD i (dfl tR))).den.length = true := m
      have : longs x.1 = true := any_at (f := fun f => lngF (toFr f)) il (dfl tR) (by show lngF _ = true; unfold lngF; rw [m]; simp)
      rw [this]
    · have k : isLong (toFr (x.1.getD i (dfl tR))).num.length = false := k
      have m : isLong (toFr (x.1.getD i (dfl tR))).den.length = false := m
      exact any_take (f := fun f => lngF (toFr f)) il (dfl tR) i1 (by show lngF _ = false; unfold lngF; rw [k, m]; rfl)
  · obtain ⟨i0, i1⟩ := hi
    have h := ltF h
    rw [List.take_of_length_le (by omega)] at i1
    rw [i1]
set_option maxRecDepth 100000 in
theorem fo_kLong : FnOk Tryz.prog 12 sp_kLong := fnOk_of (C := c_kLong) iv_kLong Tryz.func12 rfl (by kernel_rfl) tys_ok (prims_cons (spec_prim fo_klong) prims_nil) mixed_ (Nat.le_refl _) rfl fun y x h1 h2 h3 h4 =>
  Eq.mpr (w_kLong y x) (m_kLong y x h2 h3)
noncomputable def sp_kLongG : Spec := { q := .un, ps := [.sl tG], rs := [.bo], fresh := true, pre := fun _ _ => none, post := fun _ x => ((), (longGs x.1, ())) }
noncomputable def iv_kLongG (y : El sp_kLongG.q) (x : Els sp_kLongG.ps) : Nat → Option Inv := fun k => if k = 0 then some { X := Nat, tm := fun i => [(0, .c (.sl tG x.1)), (3, .c (.sc (.int .i64 i)))], ob := fun _ => [], n := 1, I := fun i => i ≤ x.1.length ∧ longGs (x.1.take i) = false, μ := fun i => x.1.length - i } else none
noncomputable abbrev c_kLongG : Cfg := cfgS (Tryz.f86).ntmps false [(12, sp_kLong.prim)]
def F_kLongG (y : El sp_kLongG.q) (x : Els sp_kLongG.ps) : Prop :=
  (∃ (x_1 : Nat), x.fst = x.fst ∧ (↑x_1 : Int) = (0 : Int) ∧ x_1 ≤ List.length x.fst ∧ longGs (List.take x_1 x.fst) = false) ∧ ∀ (x_1 : Nat), x_1 ≤ List.length x.fst ∧ longGs (List.take x_1 x.fst) = false → (decide ((↑x_1 : Int) < (↑(List.length x.fst) : Int)) = true → ((0 : Int) ≤ (↑x_1 : Int) ∧ (↑x_1 : Int) < (↑(List.length x.fst) : Int)) ∧ ((0 : Int) ≤ (↑x_1 : Int) ∧ (↑x_1 : Int) < (↑(List.length x.fst) : Int)) ∧ ∀ (r : El Ty.un × Els [Ty.bo]), r = ((), longs [(List.getD x.fst (↑x_1 : Int).toNat (dfl tG)).fst, (List.getD x.fst (↑x_1 : Int).toNat (dfl tG)).snd.fst], ()) → (r.snd.fst = true → (true, ()) = (longGs x.fst, ())) ∧ (r.snd.fst = false → ((-9223372036854775808 : Int) ≤ (↑x_1 : Int) + (1 : Int) ∧ (↑x_1 : Int) + (1 : Int) ≤ (9223372036854775807 : Int)) ∧ ∃ (x' : Nat), x.fst = x.fst ∧ (↑x' : Int) = (↑x_1 : Int) + (1 : Int) ∧ (x' ≤ List.length x.fst ∧ longGs (List.take x' x.fst) = false) ∧ List.length x.fst - x' < List.length x.fst - x_1)) ∧ (decide ((↑x_1 : Int) < (↑(List.length x.fst) : Int)) = false → (false, ()) = (longGs x.fst, ()))
set_option maxRecDepth 100000 in
theorem w_kLongG (y : El sp_kLongG.q) (x : Els sp_kLongG.ps) : aw c_kLongG (iv_kLongG y x) (codeOf Tryz.f86) 0 (retQ c_kLongG sp_kLongG (Tryz.f86).results.toList y x) (startT sp_kLongG x) (startO sp_kLongG y) 1 = F_kLongG y x := by kernel_rfl
theorem m_kLongG (y : El (.un)) (x : Els [.sl tG]) (h2 : wfE (.un) y) (h3 : wfEs [.sl tG] x) : F_kLongG y x := by
  unfold F_kLongG
  have hL : x.1.length ≤ 9223372036854775807 := h3.1.1
  refine ⟨⟨0, rfl, rfl, Nat.zero_le _, rfl⟩, fun i hi => ⟨fun h => ?_, fun h => ?_⟩⟩
  · obtain ⟨i0, i1⟩ := hi
    have h := ltT h
    have il : i < x.1.length := by omega
    refine ⟨⟨by omega, h⟩, ⟨by omega, h⟩, ?_⟩
    rw [Int.toNat_natCast]
    rintro _ rfl
    have e : longs [(x.1.getD i (dfl tG)).1, (x.1.getD i (dfl tG)).2.1] = lngG (toGa (x.1.getD i (dfl tG))) := by
      unfold longs lngG
      simp
    rw [e]
    refine ⟨fun k => ?_, fun k => ⟨⟨by omega, by omega⟩, i + 1, rfl, rfl, ⟨il, any_take (f := fun g => lngG (toGa g)) il (dfl tG) i1 k⟩, by omega⟩⟩
    have : longGs x.1 = true := any_at (f := fun g => lngG (toGa g)) il (dfl tG) k
    rw [this]
  · obtain ⟨i0, i1⟩ := hi
    have h := ltF h
    rw [List.take_of_length_le (by omega)] at i1
    rw [i1]
set_option maxRecDepth 100000 in
theorem fo_kLongG : FnOk Tryz.prog 86 sp_kLongG := fnOk_of (C := c_kLongG) iv_kLongG Tryz.func86 rfl (by kernel_rfl) tys_ok (prims_cons (spec_prim fo_kLong) prims_nil) mixed_ (Nat.le_refl _) rfl fun y x h1 h2 h3 h4 =>
  Eq.mpr (w_kLongG y x) (m_kLongG y x h2 h3)
def gint (a b : Int) : Ga := ⟨(fsmall a 1).1, (fsmall b 1).1⟩
noncomputable def sp_iwhole : Spec := { q := .un, ps := [tG], rs := [tG, .it .i64], fresh := true, pre := fun _ _ => none, post := fun _ x => pG (gadd (gint 1 0) (toGa x.1)) }
noncomputable def iv_iwhole (y : El sp_iwhole.q) (x : Els sp_iwhole.ps) : Nat → Option Inv := fun _ => none
noncomputable abbrev c_iwhole : Cfg := cfgS (Tryz.f187).ntmps false [(52, sp_gInt.prim), (59, sp_gAdd.prim)]
def F_iwhole (y : El sp_iwhole.q) (x : Els sp_iwhole.ps) : Prop :=
  ∀ (r : El Ty.un × Els [tG]), r = ((), ofGa { re := (fsmall (1 : Int) (1 : Int)).fst, im := (fsmall (0 : Int) (1 : Int)).fst }, ()) → ∀ (r_1 : El Ty.un × Els [tG, Ty.it IntKind.i64]), r_1 = pG (gadd (toGa r.snd.fst) (toGa x.fst)) → r_1.snd = (pG (gadd (gint (1 : Int) (0 : Int)) (toGa x.fst))).snd
set_option maxRecDepth 100000 in
theorem w_iwhole (y : El sp_iwhole.q) (x : Els sp_iwhole.ps) : aw c_iwhole (iv_iwhole y x) (codeOf Tryz.f187) 0 (retQ c_iwhole sp_iwhole (Tryz.f187).results.toList y x) (startT sp_iwhole x) (startO sp_iwhole y) 1 = F_iwhole y x := by kernel_rfl
theorem m_iwhole (y : El (.un)) (x : Els [tG]) (h2 : wfE (.un) y) (h3 : wfEs [tG] x) : F_iwhole y x := by
  unfold F_iwhole
  rintro _ rfl _ rfl
  rfl
set_option maxRecDepth 100000 in
theorem fo_iwhole : FnOk Tryz.prog 187 sp_iwhole := fnOk_of (C := c_iwhole) iv_iwhole Tryz.func187 rfl (by kernel_rfl) tys_ok (prims_cons (spec_prim fo_gInt) (prims_cons (spec_prim fo_gAdd) prims_nil)) mixed_ (Nat.le_refl _) rfl fun y x h1 h2 h3 h4 =>
  Eq.mpr (w_iwhole y x) (m_iwhole y x h2 h3)
def gZ3 (e : Int) : El tG × El tG × Int × Unit := (ofGa Ga.zero, ofGa Ga.zero, e, ())
def gsplit (t r : Ga) : El tG × El tG × Int × Unit :=
  if gchk t ≠ 0 then gZ3 (gchk t) else if gchk r ≠ 0 then gZ3 (gchk r) else if r = gint (-1) 0 then gZ3 7
  else if (gadd (gint 1 0) r).2 ≠ 0 then gZ3 (gadd (gint 1 0) r).2
  else if (gquo t (gadd (gint 1 0) r).1).2 ≠ 0 then gZ3 (gquo t (gadd (gint 1 0) r).1).2
  else if (gmul r (gquo t (gadd (gint 1 0) r).1).1).2 ≠ 0 then gZ3 (gmul r (gquo t (gadd (gint 1 0) r).1).1).2
  else (ofGa (gquo t (gadd (gint 1 0) r).1).1, ofGa (gmul r (gquo t (gadd (gint 1 0) r).1).1).1, 0, ())
theorem gsame_dec {r m : Ga} (h : gchk r = 0) : gsame r m = decide (r = m) := by
  unfold gsame
  rw [Bool.eq_iff_iff, decide_eq_true_eq, decide_eq_true_eq]
  constructor
  · exact fun k => k.2
  · intro e
    subst e
    exact ⟨by unfold gchk2; rw [h]; rfl, rfl⟩
section
variable {t r : Ga}
theorem sp_1 (h : gchk t ≠ 0) : gZ3 (gchk t) = gsplit t r := by unfold gsplit; rw [if_pos h]
theorem sp_2 (h : gchk t = 0) (k : gchk r ≠ 0) : gZ3 (gchk r) = gsplit t r := by unfold gsplit; rw [if_neg (fun c => c h), if_pos k]
theorem sp_3 (h : gchk t = 0) (k : gchk r = 0) (l : r = gint (-1) 0) : gZ3 7 = gsplit t r := by unfold gsplit; rw [if_neg (fun c => c h), if_neg (fun c => c k), if_pos l]
theorem sp_4 (h : gchk t = 0) (k : gchk r = 0) (l : r ≠ gint (-1) 0) (m : (gadd (gint 1 0) r).2 ≠ 0) : gZ3 (gadd (gint 1 0) r).2 = gsplit t r := by unfold gsplit; rw [if_neg (fun c => c h), if_neg (fun c => c k), if_neg l, if_pos m]
theorem sp_5 (h : gchk t = 0) (k : gchk r = 0) (l : r ≠ gint (-1) 0) (m : (gadd (gint 1 0) r).2 = 0) (n : (gquo t (gadd (gint 1 0) r).1).2 ≠ 0) : gZ3 (gquo t (gadd (gint 1 0) r).1).2 = gsplit t r := by unfold gsplit; rw [if_neg (fun c => c h), if_neg (fun c => c k), if_neg l, if_neg (fun c => c m), if_pos n]
theorem sp_6 (h : gchk t = 0) (k : gchk r = 0) (l : r ≠ gint (-1) 0) (m : (gadd (gint 1 0) r).2 = 0) (n : (gquo t (gadd (gint 1 0) r).1).2 = 0) (o : (gmul r (gquo t (gadd (gint 1 0) r).1).1).2 ≠ 0) : gZ3 (gmul r (gquo t (gadd (gint 1 0) r).1).1).2 = gsplit t r := by unfold gsplit; rw [if_neg (fun c => c h), if_neg (fun c => c k), if_neg l, if_neg (fun c => c m), if_neg (fun c => c n), if_pos o]
theorem sp_7 (h : gchk t = 0) (k : gchk r = 0) (l : r ≠ gint (-1) 0) (m : (gadd (gint 1 0) r).2 = 0) (n : (gquo t (gadd (gint 1 0) r).1).2 = 0) (o : (gmul r (gquo t (gadd (gint 1 0) r).1).1).2 = 0) : ((ofGa (gquo t (gadd (gint 1 0) r).1).1, ofGa (gmul r (gquo t (gadd (gint 1 0) r).1).1).1, 0, ()) : El tG × El tG × Int × Unit) = gsplit t r := by unfold gsplit; rw [if_neg (fun c => c h), if_neg (fun c => c k), if_neg l, if_neg (fun c => c m), if_neg (fun c => c n), if_neg (fun c => c o)]
end
noncomputable def sp_iSplit : Spec := { q := .un, ps := [tG, tG], rs := [tG, tG, .it .i64], fresh := true, pre := fun _ _ => none, post := fun _ x => ((), gsplit (toGa x.1) (toGa x.2.1)) }
noncomputable def iv_iSplit (y : El sp_iSplit.q) (x : Els sp_iSplit.ps) : Nat → Option Inv := fun _ => none
noncomputable abbrev c_iSplit : Cfg := cfgS (Tryz.f87).ntmps false [(40, sp_gCheck.prim), (52, sp_gInt.prim), (42, sp_gSame.prim), (187, sp_iwhole.prim), (65, sp_gQuo.prim), (63, sp_gMul.prim)]
def F_iSplit (y : El sp_iSplit.q) (x : Els sp_iSplit.ps) : Prop :=
  ∀ (r : El Ty.un × Els [Ty.it IntKind.i64]), r = ((), gchk (toGa x.fst), ()) → ((r.snd.fst != (0 : Int)) = true → (((false, [], [], ()), (false, [], [], ()), ()), ((false, [], [], ()), (false, [], [], ()), ()), r.snd) = gsplit (toGa x.fst) (toGa x.snd.fst)) ∧ ((r.snd.fst != (0 : Int)) = false → ∀ (r : El Ty.un × Els [Ty.it IntKind.i64]), r = ((), gchk (toGa x.snd.fst), ()) → ((r.snd.fst != (0 : Int)) = true → (((false, [], [], ()), (false, [], [], ()), ()), ((false, [], [], ()), (false, [], [], ()), ()), r.snd) = gsplit (toGa x.fst) (toGa x.snd.fst)) ∧ ((r.snd.fst != (0 : Int)) = false → ∀ (r : El Ty.un × Els [tG]), r = ((), ofGa { re := (fsmall (-1 : Int) (1 : Int)).fst, im := (fsmall (0 : Int) (1 : Int)).fst }, ()) → ∀ (r_1 : El Ty.un × Els [Ty.bo]), r_1 = ((), gsame (toGa x.snd.fst) (toGa r.snd.fst), ()) → (r_1.snd.fst = true → (((false, [], [], ()), (false, [], [], ()), ()), ((false, [], [], ()), (false, [], [], ()), ()), (7 : Int), ()) = gsplit (toGa x.fst) (toGa x.snd.fst)) ∧ (r_1.snd.fst = false → ∀ (r : El Ty.un × Els [tG, Ty.it IntKind.i64]), r = pG (gadd (gint (1 : Int) (0 : Int)) (toGa x.snd.fst)) → ((r.snd.snd.fst == (0 : Int)) = true → ∀ (r_2 : El Ty.un × Els [tG, Ty.it IntKind.i64]), r_2 = pG (gquo (toGa x.fst) (toGa r.snd.fst)) → ((r_2.snd.snd.fst == (0 : Int)) = true → ∀ (r : El Ty.un × Els [tG, Ty.it IntKind.i64]), r = pG (gmul (toGa x.snd.fst) (toGa r_2.snd.fst)) → ((r.snd.snd.fst != (0 : Int)) = true → (((false, [], [], ()), (false, [], [], ()), ()), ((false, [], [], ()), (false, [], [], ()), ()), r.snd.snd) = gsplit (toGa x.fst) (toGa x.snd.fst)) ∧ ((r.snd.snd.fst != (0 : Int)) = false → (r_2.snd.fst, r.snd.fst, (0 : Int), ()) = gsplit (toGa x.fst) (toGa x.snd.fst))) ∧ ((r_2.snd.snd.fst == (0 : Int)) = false → ((r_2.snd.snd.fst != (0 : Int)) = true → (((false, [], [], ()), (false, [], [], ()), ()), ((false, [], [], ()), (false, [], [], ()), ()), r_2.snd.snd) = gsplit (toGa x.fst) (toGa x.snd.fst)) ∧ ((r_2.snd.snd.fst != (0 : Int)) = false → (r_2.snd.fst, ((false, [], [], ()), (false, [], [], ()), ()), (0 : Int), ()) = gsplit (toGa x.fst) (toGa x.snd.fst)))) ∧ ((r.snd.snd.fst == (0 : Int)) = false → ((r.snd.snd.fst == (0 : Int)) = true → ∀ (r : El Ty.un × Els [tG, Ty.it IntKind.i64]), r = pG (gmul (toGa x.snd.fst) (toGa ((false, [], [], ()), (false, [], [], ()), ()))) → ((r.snd.snd.fst != (0 : Int)) = true → (((false, [], [], ()), (false, [], [], ()), ()), ((false, [], [], ()), (false, [], [], ()), ()), r.snd.snd) = gsplit (toGa x.fst) (toGa x.snd.fst)) ∧ ((r.snd.snd.fst != (0 : Int)) = false → (((false, [], [], ()), (false, [], [], ()), ()), r.snd.fst, (0 : Int), ()) = gsplit (toGa x.fst) (toGa x.snd.fst))) ∧ ((r.snd.snd.fst == (0 : Int)) = false → ((r.snd.snd.fst != (0 : Int)) = true → (((false, [], [], ()), (false, [], [], ()), ()), ((false, [], [], ()), (false, [], [], ()), ()), r.snd.snd) = gsplit (toGa x.fst) (toGa x.snd.fst)) ∧ ((r.snd.snd.fst != (0 : Int)) = false → (((false, [], [], ()), (false, [], [], ()), ()), ((false, [], [], ()), (false, [], [], ()), ()), (0 : Int), ()) = gsplit (toGa x.fst) (toGa x.snd.fst)))))))
set_option maxRecDepth 100000 in
theorem w_iSplit (y : El sp_iSplit.q) (x : Els sp_iSplit.ps) : aw c_iSplit (iv_iSplit y x) (codeOf Tryz.f87) 0 (retQ c_iSplit sp_iSplit (Tryz.f87).results.toList y x) (startT sp_iSplit x) (startO sp_iSplit y) 1 = F_iSplit y x := by kernel_rfl
theorem m_iSplit (y : El (.un)) (x : Els [tG, tG]) (h2 : wfE (.un) y) (h3 : wfEs [tG, tG] x) : F_iSplit y x := by
  unfold F_iSplit
  rintro _ rfl
  refine ⟨fun h => sp_1 (neT h), fun h => ?_⟩
  have h := neF h
  rintro _ rfl
  refine ⟨fun k => sp_2 h (neT k), fun k => ?_⟩
  have k := neF k
  rintro _ rfl _ rfl
  rw [gsame_dec k]
  refine ⟨fun l => sp_3 h k (of_decide_eq_true l), fun l => ?_⟩
  have l : toGa x.2.1 ≠ gint (-1) 0 := of_decide_eq_false l
  rintro _ rfl
  refine ⟨fun m => ?_, fun m => ⟨fun n => absurd (eqT n) (eqF m), fun _ => ⟨fun _ => sp_4 h k l (eqF m), fun n => absurd (neF n) (eqF m)⟩⟩⟩
  rintro _ rfl
  refine ⟨fun n => ?_, fun n => ⟨fun _ => sp_5 h k l (eqT m) (eqF n), fun o => absurd (neF o) (eqF n)⟩⟩
  rintro _ rfl
  exact ⟨fun o => sp_6 h k l (eqT m) (eqT n) (neT o), fun o => sp_7 h k l (eqT m) (eqT n) (neF o)⟩
set_option maxRecDepth 100000 in
theorem fo_iSplit : FnOk Tryz.prog 87 sp_iSplit := fnOk_of (C := c_iSplit) iv_iSplit Tryz.func87 rfl (by kernel_rfl) tys_ok (prims_cons (spec_prim fo_gCheck) (prims_cons (spec_prim fo_gInt) (prims_cons (spec_prim fo_gSame) (prims_cons (spec_prim fo_iwhole) (prims_cons (spec_prim fo_gQuo) (prims_cons (spec_prim fo_gMul) prims_nil)))))) mixed_ (Nat.le_refl _) rfl fun y x h1 h2 h3 h4 =>
  Eq.mpr (w_iSplit y x) (m_iSplit y x h2 h3)
def rchk (r : El tRule) : Int := if nameS r.1 = false ∨ nameS r.2.1 = false ∨ r.1 = r.2.1 then 4 else if rotC r.2.2.1 ≠ 0 then rotC r.2.2.1 else if gchk (toGa r.2.2.2.1) ≠ 0 then gchk (toGa r.2.2.2.1) else if toGa r.2.2.2.1 = gint (-1) 0 then 7 else 0
section
variable {r : El tRule}
theorem rk_1 (h : nameS r.1 = false ∨ nameS r.2.1 = false ∨ r.1 = r.2.1) : ((4 : Int), ()) = (rchk r, ()) := by unfold rchk; rw [if_pos h]
theorem rk_2 (h : ¬ (nameS r.1 = false ∨ nameS r.2.1 = false ∨ r.1 = r.2.1)) (k : rotC r.2.2.1 ≠ 0) : (rotC r.2.2.1, ()) = (rchk r, ()) := by unfold rchk; rw [if_neg h, if_pos k]
theorem rk_3 (h : ¬ (nameS r.1 = false ∨ nameS r.2.1 = false ∨ r.1 = r.2.1)) (k : rotC r.2.2.1 = 0) (l : gchk (toGa r.2.2.2.1) ≠ 0) : (gchk (toGa r.2.2.2.1), ()) = (rchk r, ()) := by unfold rchk; rw [if_neg h, if_neg (fun c => c k), if_pos l]
theorem rk_4 (h : ¬ (nameS r.1 = false ∨ nameS r.2.1 = false ∨ r.1 = r.2.1)) (k : rotC r.2.2.1 = 0) (l : gchk (toGa r.2.2.2.1) = 0) (m : toGa r.2.2.2.1 = gint (-1) 0) : ((7 : Int), ()) = (rchk r, ()) := by unfold rchk; rw [if_neg h, if_neg (fun c => c k), if_neg (fun c => c l), if_pos m]
theorem rk_5 (h : ¬ (nameS r.1 = false ∨ nameS r.2.1 = false ∨ r.1 = r.2.1)) (k : rotC r.2.2.1 = 0) (l : gchk (toGa r.2.2.2.1) = 0) (m : toGa r.2.2.2.1 ≠ gint (-1) 0) : ((0 : Int), ()) = (rchk r, ()) := by unfold rchk; rw [if_neg h, if_neg (fun c => c k), if_neg (fun c => c l), if_neg m]
theorem rk_not (a : nameS r.1 = true) (b : nameS r.2.1 = true) (c : decide (r.1 = r.2.1) = false) : ¬ (nameS r.1 = false ∨ nameS r.2.1 = false ∨ r.1 = r.2.1) := by
  rw [a, b]
  simpa using c
end
noncomputable def sp_iCheck : Spec := { q := .un, ps := [tRule], rs := [.it .i64], fresh := true, pre := fun _ _ => none, post := fun _ x => ((), (rchk x.1, ())) }
noncomputable def iv_iCheck (y : El sp_iCheck.q) (x : Els sp_iCheck.ps) : Nat → Option Inv := fun _ => none
noncomputable abbrev c_iCheck : Cfg := cfgS (Tryz.f90).ntmps false [(72, sp_tName.prim), (182, sp_rCk.prim), (40, sp_gCheck.prim), (52, sp_gInt.prim), (42, sp_gSame.prim)]
def F_iCheck (y : El sp_iCheck.q) (x : Els sp_iCheck.ps) : Prop :=
  ∀ (r : El Ty.un × Els [Ty.bo]), r = ((), nameS x.fst.fst, ()) → ((!r.snd.fst) = true → ((4 : Int), ()) = (rchk x.fst, ())) ∧ ((!r.snd.fst) = false → ∀ (r : El Ty.un × Els [Ty.bo]), r = ((), nameS x.fst.snd.fst, ()) → ((!r.snd.fst) = true → ((4 : Int), ()) = (rchk x.fst, ())) ∧ ((!r.snd.fst) = false → ((ByteArray.toList x.fst.fst == ByteArray.toList x.fst.snd.fst) = true → ((4 : Int), ()) = (rchk x.fst, ())) ∧ ((ByteArray.toList x.fst.fst == ByteArray.toList x.fst.snd.fst) = false → ∀ (r : El Ty.un × Els [Ty.it IntKind.i64]), r = ((), rotC x.fst.snd.snd.fst, ()) → ((r.snd.fst != (0 : Int)) = true → r.snd = (rchk x.fst, ())) ∧ ((r.snd.fst != (0 : Int)) = false → ∀ (r : El Ty.un × Els [Ty.it IntKind.i64]), r = ((), gchk (toGa x.fst.snd.snd.snd.fst), ()) → ((r.snd.fst != (0 : Int)) = true → r.snd = (rchk x.fst, ())) ∧ ((r.snd.fst != (0 : Int)) = false → ∀ (r : El Ty.un × Els [tG]), r = ((), ofGa { re := (fsmall (-1 : Int) (1 : Int)).fst, im := (fsmall (0 : Int) (1 : Int)).fst }, ()) → ∀ (r_1 : El Ty.un × Els [Ty.bo]), r_1 = ((), gsame (toGa x.fst.snd.snd.snd.fst) (toGa r.snd.fst), ()) → (r_1.snd.fst = true → ((7 : Int), ()) = (rchk x.fst, ())) ∧ (r_1.snd.fst = false → ((0 : Int), ()) = (rchk x.fst, ())))))))
set_option maxRecDepth 100000 in
theorem w_iCheck (y : El sp_iCheck.q) (x : Els sp_iCheck.ps) : aw c_iCheck (iv_iCheck y x) (codeOf Tryz.f90) 0 (retQ c_iCheck sp_iCheck (Tryz.f90).results.toList y x) (startT sp_iCheck x) (startO sp_iCheck y) 1 = F_iCheck y x := by kernel_rfl
theorem m_iCheck (y : El (.un)) (x : Els [tRule]) (h2 : wfE (.un) y) (h3 : wfEs [tRule] x) : F_iCheck y x := by
  unfold F_iCheck
  simp only [ba_eq]
  rintro _ rfl
  refine ⟨fun a => rk_1 (.inl (ntt a)), fun a => ?_⟩
  rintro _ rfl
  refine ⟨fun b => rk_1 (.inr (.inl (ntt b))), fun b => ⟨fun c => rk_1 (.inr (.inr (of_decide_eq_true c))), fun c => ?_⟩⟩
  have h := rk_not (r := x.1) (nff a) (nff b) c
  rintro _ rfl
  refine ⟨fun k => rk_2 h (neT k), fun k => ?_⟩
  have k := neF k
  rintro _ rfl
  refine ⟨fun l => rk_3 h k (neT l), fun l => ?_⟩
  have l := neF l
  rintro _ rfl _ rfl
  rw [gsame_dec l]
  exact ⟨fun m => rk_4 h k l (of_decide_eq_true m), fun m => rk_5 h k l (of_decide_eq_false m)⟩
set_option maxRecDepth 100000 in
theorem fo_iCheck : FnOk Tryz.prog 90 sp_iCheck := fnOk_of (C := c_iCheck) iv_iCheck Tryz.func90 rfl (by kernel_rfl) tys_ok (prims_cons (spec_prim fo_tName) (prims_cons (spec_prim fo_rCk) (prims_cons (spec_prim fo_gCheck) (prims_cons (spec_prim fo_gInt) (prims_cons (spec_prim fo_gSame) prims_nil))))) mixed_ (Nat.le_refl _) rfl fun y x h1 h2 h3 h4 =>
  Eq.mpr (w_iCheck y x) (m_iCheck y x h2 h3)
noncomputable def sp_n15Zero : Spec := { q := .un, ps := [], rs := [tG], fresh := false, pre := fun _ _ => none, post := fun _ x => ((), (ofGa (gint 0 0), ())) }
noncomputable def iv_n15Zero (y : El sp_n15Zero.q) (x : Els sp_n15Zero.ps) : Nat → Option Inv := fun _ => none
noncomputable abbrev c_n15Zero : Cfg := cfgS (Tryz.f190).ntmps false [(171, sp_nSmall.prim)]
def F_n15Zero (y : El sp_n15Zero.q) (x : Els sp_n15Zero.ps) : Prop :=
  ∀ (r : El Ty.un × Els [tR, Ty.it IntKind.i64]), r = pR (fsmall (0 : Int) (1 : Int)) → ∀ (r_1 : El Ty.un × Els [tR, Ty.it IntKind.i64]), r_1 = pR (fsmall (0 : Int) (1 : Int)) → ((r.snd.fst, r_1.snd.fst, ()), ()) = (ofGa (gint (0 : Int) (0 : Int)), ())
set_option maxRecDepth 100000 in
theorem w_n15Zero (y : El sp_n15Zero.q) (x : Els sp_n15Zero.ps) : aw c_n15Zero (iv_n15Zero y x) (codeOf Tryz.f190) 0 (retQ c_n15Zero sp_n15Zero (Tryz.f190).results.toList y x) (startT sp_n15Zero x) (startO sp_n15Zero y) 1 = F_n15Zero y x := by kernel_rfl
theorem m_n15Zero (y : El (.un)) (x : Els []) (h2 : wfE (.un) y) (h3 : wfEs [] x) : F_n15Zero y x := by
  unfold F_n15Zero
  rintro _ rfl _ rfl
  rfl
set_option maxRecDepth 100000 in
theorem fo_n15Zero : FnOk Tryz.prog 190 sp_n15Zero := fnOk_of (C := c_n15Zero) iv_n15Zero Tryz.func190 rfl (by kernel_rfl) tys_ok (prims_cons (spec_prim fo_nSmall) prims_nil) mixed_ (Nat.le_refl _) rfl fun y x h1 h2 h3 h4 =>
  Eq.mpr (w_n15Zero y x) (m_n15Zero y x h2 h3)
def gone (r : Ga) : Ga × Int := if r = gint (-1) 0 then (Ga.zero, 7) else gadd (gint 1 0) r
theorem gone_m {r : Ga} (h : r = gint (-1) 0) : (pG (gone r)).2 = ((ofGa Ga.zero, (7 : Int), ()) : El tG × Int × Unit) := by
  unfold gone
  rw [if_pos h]
  rfl
theorem gone_n {r : Ga} (h : r ≠ gint (-1) 0) : (pG (gone r)).2 = (pG (gadd (gint 1 0) r)).2 := by
  unfold gone
  rw [if_neg h]
theorem tell_7 (q : Rat) : (tell q).2 ≠ 7 := by
  unfold tell
  split <;> simp
theorem fchk_7 (a : Fr) : fchk a ≠ 7 := by
  have := fchk_cases a
  omega
theorem fadd_7 (a b : Fr) : (fadd a b).2 ≠ 7 := by
  unfold fadd both
  split
  · exact fchk_7 a
  · split
    · exact fchk_7 b
    · exact tell_7 _
theorem wadd_7 {e : Int} (h : e ≠ 7) (a b : Fr) : (wadd e a b).2 ≠ 7 := by
  unfold wadd stp
  split
  · exact h
  · exact fadd_7 a b
theorem gchk_7 (a : Ga) : gchk a ≠ 7 := by
  unfold gchk fchk2
  split
  · exact fchk_7 _
  · exact fchk_7 _
theorem gadd_7 (a b : Ga) : (gadd a b).2 ≠ 7 := by
  have h : gchk2 a b ≠ 7 := by
    unfold gchk2
    split
    · exact gchk_7 _
    · exact gchk_7 _
  have := wadd_7 (wadd_7 h a.re b.re) a.im b.im
  unfold gadd gtell
  dsimp only
  split
  · exact this
  · exact (by decide : (0 : Int) ≠ 7)
theorem gone_0 {r : Ga} (h : (gone r).2 = 0) : r ≠ gint (-1) 0 ∧ gone r = gadd (gint 1 0) r := by
  unfold gone at h
  split at h
  · cases h
  · rename_i k
    unfold gone
    rw [if_neg k]
    exact ⟨k, rfl⟩
theorem sp_one {t r : Ga} (h : gchk t = 0) (k : gchk r = 0) (l : (gone r).2 ≠ 0) : gZ3 (gone r).2 = gsplit t r := by
  by_cases m : r = gint (-1) 0
  · have : (gone r).2 = 7 := by unfold gone; rw [if_pos m]
    rw [this]
    exact sp_3 h k m
  · have : gone r = gadd (gint 1 0) r := by unfold gone; rw [if_neg m]
    rw [this] at l ⊢
    exact sp_4 h k m l
noncomputable def sp_n24one : Spec := { q := .un, ps := [tG], rs := [tG, .it .i64], fresh := false, pre := fun _ _ => none, post := fun _ x => pG (gone (toGa x.1)) }
noncomputable def iv_n24one (y : El sp_n24one.q) (x : Els sp_n24one.ps) : Nat → Option Inv := fun _ => none
noncomputable abbrev c_n24one : Cfg := cfgS (Tryz.f188).ntmps false [(190, sp_n15Zero.prim), (171, sp_nSmall.prim), (34, sp_nSame.prim), (60, sp_hAdd.prim)]
def F_n24one (y : El sp_n24one.q) (x : Els sp_n24one.ps) : Prop :=
  ∀ (r : El Ty.un × Els [tG]), r = ((), ofGa (gint (0 : Int) (0 : Int)), ()) → ∀ (r_1 : El Ty.un × Els [tR, Ty.it IntKind.i64]), r_1 = pR (fsmall (1 : Int) (1 : Int)) → ∀ (r_2 : El Ty.un × Els [tG]), r_2 = ((), ofGa (gint (0 : Int) (0 : Int)), ()) → ∀ (r_3 : El Ty.un × Els [tR, Ty.it IntKind.i64]), r_3 = pR (fsmall (-1 : Int) (1 : Int)) → ∀ (r_4 : El Ty.un × Els [Ty.bo]), r_4 = ((), decide (toFr x.fst.fst = toFr r_3.snd.fst), ()) → (r_4.snd.fst = true → ∀ (r_5 : El Ty.un × Els [Ty.bo]), r_5 = ((), decide (toFr x.fst.snd.fst = toFr r_2.snd.fst.snd.fst), ()) → (r_5.snd.fst = true → (((false, [], [], ()), (false, [], [], ()), ()), (7 : Int), ()) = (pG (gone (toGa x.fst))).snd) ∧ (r_5.snd.fst = false → ∀ (r_6 : El Ty.un × Els [tG, Ty.it IntKind.i64]), r_6 = pG (gadd (toGa (r_1.snd.fst, r.snd.fst.snd)) (toGa x.fst)) → r_6.snd = (pG (gone (toGa x.fst))).snd)) ∧ (r_4.snd.fst = false → ∀ (r_5 : El Ty.un × Els [tG, Ty.it IntKind.i64]), r_5 = pG (gadd (toGa (r_1.snd.fst, r.snd.fst.snd)) (toGa x.fst)) → r_5.snd = (pG (gone (toGa x.fst))).snd)
set_option maxRecDepth 100000 in
theorem w_n24one (y : El sp_n24one.q) (x : Els sp_n24one.ps) : aw c_n24one (iv_n24one y x) (codeOf Tryz.f188) 0 (retQ c_n24one sp_n24one (Tryz.f188).results.toList y x) (startT sp_n24one x) (startO sp_n24one y) 1 = F_n24one y x := by kernel_rfl
theorem m_n24one (y : El (.un)) (x : Els [tG]) (h2 : wfE (.un) y) (h3 : wfEs [tG] x) : F_n24one y x := by
  unfold F_n24one
  rintro _ rfl _ rfl _ rfl _ rfl _ rfl
  refine ⟨fun h => ?_, fun h => ?_⟩
  · have h := of_decide_eq_true h
    rintro _ rfl
    refine ⟨fun k => ?_, fun k => ?_⟩
    · have k := of_decide_eq_true k
      have e : toGa x.1 = gint (-1) 0 := by
        show (⟨toFr x.1.1, toFr x.1.2.1⟩ : Ga) = _
        rw [h, k]
        rfl
      exact (gone_m e).symm
    · have k := of_decide_eq_false k
      rintro _ rfl
      exact (gone_n (fun e => k (congrArg Ga.im e))).symm
  · have h := of_decide_eq_false h
    rintro _ rfl
    exact (gone_n (fun e => h (congrArg Ga.re e))).symm
set_option maxRecDepth 100000 in
theorem fo_n24one : FnOk Tryz.prog 188 sp_n24one := fnOk_of (C := c_n24one) iv_n24one Tryz.func188 rfl (by kernel_rfl) tys_ok (prims_cons (spec_prim fo_n15Zero) (prims_cons (spec_prim fo_nSmall) (prims_cons (spec_prim fo_nSame) (prims_cons (spec_prim fo_hAdd) prims_nil)))) mixed_ (Nat.le_refl _) rfl fun y x h1 h2 h3 h4 =>
  Eq.mpr (w_n24one y x) (m_n24one y x h2 h3)
noncomputable def sp_n24Split : Spec := { q := .un, ps := [tG, tG], rs := [tG, tG, .it .i64], fresh := false, pre := fun _ _ => none, post := fun _ x => ((), gsplit (toGa x.1) (toGa x.2.1)) }
noncomputable def iv_n24Split (y : El sp_n24Split.q) (x : Els sp_n24Split.ps) : Nat → Option Inv := fun _ => none
noncomputable abbrev c_n24Split : Cfg := cfgS (Tryz.f88).ntmps false [(41, sp_hCheck.prim), (188, sp_n24one.prim), (66, sp_hQuo.prim), (64, sp_hMul.prim)]
def F_n24Split (y : El sp_n24Split.q) (x : Els sp_n24Split.ps) : Prop :=
  ∀ (r : El Ty.un × Els [Ty.it IntKind.i64]), r = ((), gchk (toGa x.fst), ()) → ((r.snd.fst == (0 : Int)) = true → ∀ (r : El Ty.un × Els [Ty.it IntKind.i64]), r = ((), gchk (toGa x.snd.fst), ()) → ((r.snd.fst != (0 : Int)) = true → (((false, [], [], ()), (false, [], [], ()), ()), ((false, [], [], ()), (false, [], [], ()), ()), r.snd) = gsplit (toGa x.fst) (toGa x.snd.fst)) ∧ ((r.snd.fst != (0 : Int)) = false → ∀ (r : El Ty.un × Els [tG, Ty.it IntKind.i64]), r = pG (gone (toGa x.snd.fst)) → ((r.snd.snd.fst != (0 : Int)) = true → (((false, [], [], ()), (false, [], [], ()), ()), ((false, [], [], ()), (false, [], [], ()), ()), r.snd.snd) = gsplit (toGa x.fst) (toGa x.snd.fst)) ∧ ((r.snd.snd.fst != (0 : Int)) = false → ∀ (r_1 : El Ty.un × Els [tG, Ty.it IntKind.i64]), r_1 = pG (gquo (toGa x.fst) (toGa r.snd.fst)) → ((r_1.snd.snd.fst != (0 : Int)) = true → (((false, [], [], ()), (false, [], [], ()), ()), ((false, [], [], ()), (false, [], [], ()), ()), r_1.snd.snd) = gsplit (toGa x.fst) (toGa x.snd.fst)) ∧ ((r_1.snd.snd.fst != (0 : Int)) = false → ∀ (r : El Ty.un × Els [tG, Ty.it IntKind.i64]), r = pG (gmul (toGa x.snd.fst) (toGa r_1.snd.fst)) → ((r.snd.snd.fst != (0 : Int)) = true → (((false, [], [], ()), (false, [], [], ()), ()), ((false, [], [], ()), (false, [], [], ()), ()), r.snd.snd) = gsplit (toGa x.fst) (toGa x.snd.fst)) ∧ ((r.snd.snd.fst != (0 : Int)) = false → (r_1.snd.fst, r.snd.fst, (0 : Int), ()) = gsplit (toGa x.fst) (toGa x.snd.fst)))))) ∧ ((r.snd.fst == (0 : Int)) = false → ((r.snd.fst != (0 : Int)) = true → (((false, [], [], ()), (false, [], [], ()), ()), ((false, [], [], ()), (false, [], [], ()), ()), r.snd) = gsplit (toGa x.fst) (toGa x.snd.fst)) ∧ ((r.snd.fst != (0 : Int)) = false → ∀ (r : El Ty.un × Els [tG, Ty.it IntKind.i64]), r = pG (gone (toGa x.snd.fst)) → ((r.snd.snd.fst != (0 : Int)) = true → (((false, [], [], ()), (false, [], [], ()), ()), ((false, [], [], ()), (false, [], [], ()), ()), r.snd.snd) = gsplit (toGa x.fst) (toGa x.snd.fst)) ∧ ((r.snd.snd.fst != (0 : Int)) = false → ∀ (r_1 : El Ty.un × Els [tG, Ty.it IntKind.i64]), r_1 = pG (gquo (toGa x.fst) (toGa r.snd.fst)) → ((r_1.snd.snd.fst != (0 : Int)) = true → (((false, [], [], ()), (false, [], [], ()), ()), ((false, [], [], ()), (false, [], [], ()), ()), r_1.snd.snd) = gsplit (toGa x.fst) (toGa x.snd.fst)) ∧ ((r_1.snd.snd.fst != (0 : Int)) = false → ∀ (r : El Ty.un × Els [tG, Ty.it IntKind.i64]), r = pG (gmul (toGa x.snd.fst) (toGa r_1.snd.fst)) → ((r.snd.snd.fst != (0 : Int)) = true → (((false, [], [], ()), (false, [], [], ()), ()), ((false, [], [], ()), (false, [], [], ()), ()), r.snd.snd) = gsplit (toGa x.fst) (toGa x.snd.fst)) ∧ ((r.snd.snd.fst != (0 : Int)) = false → (r_1.snd.fst, r.snd.fst, (0 : Int), ()) = gsplit (toGa x.fst) (toGa x.snd.fst))))))
set_option maxRecDepth 100000 in
theorem w_n24Split (y : El sp_n24Split.q) (x : Els sp_n24Split.ps) : aw c_n24Split (iv_n24Split y x) (codeOf Tryz.f88) 0 (retQ c_n24Split sp_n24Split (Tryz.f88).results.toList y x) (startT sp_n24Split x) (startO sp_n24Split y) 1 = F_n24Split y x := by kernel_rfl
theorem m_n24Split (y : El (.un)) (x : Els [tG, tG]) (h2 : wfE (.un) y) (h3 : wfEs [tG, tG] x) : F_n24Split y x := by
  unfold F_n24Split
  rintro _ rfl
  refine ⟨fun h => ?_, fun h => ⟨fun _ => sp_1 (eqF h), fun k => absurd (neF k) (eqF h)⟩⟩
  have h := eqT h
  rintro _ rfl
  refine ⟨fun k => sp_2 h (neT k), fun k => ?_⟩
  have k := neF k
  rintro _ rfl
  refine ⟨fun l => sp_one h k (neT l), fun l => ?_⟩
  obtain ⟨l, e⟩ := gone_0 (neF l)
  rw [e]
  rename_i l0
  have m : (gadd (gint 1 0) (toGa x.2.1)).2 = 0 := by rw [← e]; exact neF l0
  rintro _ rfl
  refine ⟨fun n => sp_5 h k l m (neT n), fun n => ?_⟩
  rintro _ rfl
  exact ⟨fun o => sp_6 h k l m (neF n) (neT o), fun o => sp_7 h k l m (neF n) (neF o)⟩
set_option maxRecDepth 100000 in
theorem fo_n24Split : FnOk Tryz.prog 88 sp_n24Split := fnOk_of (C := c_n24Split) iv_n24Split Tryz.func88 rfl (by kernel_rfl) tys_ok (prims_cons (spec_prim fo_hCheck) (prims_cons (spec_prim fo_n24one) (prims_cons (spec_prim fo_hQuo) (prims_cons (spec_prim fo_hMul) prims_nil)))) mixed_ (Nat.le_refl _) rfl fun y x h1 h2 h3 h4 =>
  Eq.mpr (w_n24Split y x) (m_n24Split y x h2 h3)
noncomputable def sp_n24Check : Spec := { q := .un, ps := [tRule], rs := [.it .i64], fresh := true, pre := fun _ _ => none, post := fun _ x => ((), (rchk x.1, ())) }
noncomputable def iv_n24Check (y : El sp_n24Check.q) (x : Els sp_n24Check.ps) : Nat → Option Inv := fun _ => none
noncomputable abbrev c_n24Check : Cfg := cfgS (Tryz.f91).ntmps false [(73, sp_nName.prim), (183, sp_nRCk.prim), (41, sp_hCheck.prim), (188, sp_n24one.prim)]
def F_n24Check (y : El sp_n24Check.q) (x : Els sp_n24Check.ps) : Prop :=
  ∀ (r : El Ty.un × Els [Ty.bo]), r = ((), nameS x.fst.fst, ()) → ((!r.snd.fst) = true → ((4 : Int), ()) = (rchk x.fst, ())) ∧ ((!r.snd.fst) = false → ∀ (r : El Ty.un × Els [Ty.bo]), r = ((), nameS x.fst.snd.fst, ()) → ((!r.snd.fst) = true → ((4 : Int), ()) = (rchk x.fst, ())) ∧ ((!r.snd.fst) = false → ((ByteArray.toList x.fst.fst == ByteArray.toList x.fst.snd.fst) = true → ((4 : Int), ()) = (rchk x.fst, ())) ∧ ((ByteArray.toList x.fst.fst == ByteArray.toList x.fst.snd.fst) = false → ∀ (r : El Ty.un × Els [Ty.it IntKind.i64]), r = ((), rotC x.fst.snd.snd.fst, ()) → ((r.snd.fst == (0 : Int)) = true → ∀ (r : El Ty.un × Els [Ty.it IntKind.i64]), r = ((), gchk (toGa x.fst.snd.snd.snd.fst), ()) → ((r.snd.fst != (0 : Int)) = true → r.snd = (rchk x.fst, ())) ∧ ((r.snd.fst != (0 : Int)) = false → ∀ (r : El Ty.un × Els [tG, Ty.it IntKind.i64]), r = pG (gone (toGa x.fst.snd.snd.snd.fst)) → ((r.snd.snd.fst == (7 : Int)) = true → ((7 : Int), ()) = (rchk x.fst, ())) ∧ ((r.snd.snd.fst == (7 : Int)) = false → ((0 : Int), ()) = (rchk x.fst, ())))) ∧ ((r.snd.fst == (0 : Int)) = false → ((r.snd.fst != (0 : Int)) = true → r.snd = (rchk x.fst, ())) ∧ ((r.snd.fst != (0 : Int)) = false → ∀ (r : El Ty.un × Els [tG, Ty.it IntKind.i64]), r = pG (gone (toGa x.fst.snd.snd.snd.fst)) → ((r.snd.snd.fst == (7 : Int)) = true → ((7 : Int), ()) = (rchk x.fst, ())) ∧ ((r.snd.snd.fst == (7 : Int)) = false → ((0 : Int), ()) = (rchk x.fst, ())))))))
set_option maxRecDepth 100000 in
theorem w_n24Check (y : El sp_n24Check.q) (x : Els sp_n24Check.ps) : aw c_n24Check (iv_n24Check y x) (codeOf Tryz.f91) 0 (retQ c_n24Check sp_n24Check (Tryz.f91).results.toList y x) (startT sp_n24Check x) (startO sp_n24Check y) 1 = F_n24Check y x := by kernel_rfl
theorem m_n24Check (y : El (.un)) (x : Els [tRule]) (h2 : wfE (.un) y) (h3 : wfEs [tRule] x) : F_n24Check y x := by
  unfold F_n24Check
  simp only [ba_eq]
  rintro _ rfl
  refine ⟨fun a => rk_1 (.inl (ntt a)), fun a => ?_⟩
  rintro _ rfl
  refine ⟨fun b => rk_1 (.inr (.inl (ntt b))), fun b => ⟨fun c => rk_1 (.inr (.inr (of_decide_eq_true c))), fun c => ?_⟩⟩
  have h := rk_not (r := x.1) (nff a) (nff b) c
  rintro _ rfl
  refine ⟨fun k => ?_, fun k => ⟨fun _ => rk_2 h (eqF k), fun l => absurd (neF l) (eqF k)⟩⟩
  have k := eqT k
  rintro _ rfl
  refine ⟨fun l => rk_3 h k (neT l), fun l => ?_⟩
  have l := neF l
  rintro _ rfl
  by_cases m : toGa x.1.2.2.2.1 = gint (-1) 0
  · have e : (gone (toGa x.1.2.2.2.1)).2 = 7 := by unfold gone; rw [if_pos m]
    exact ⟨fun _ => rk_4 h k l m, fun n => absurd e (eqF n)⟩
  · have e : (gone (toGa x.1.2.2.2.1)).2 ≠ 7 := by unfold gone; rw [if_neg m]; exact gadd_7 _ _
    exact ⟨fun n => absurd (eqT n) e, fun _ => rk_5 h k l m⟩
set_option maxRecDepth 100000 in
theorem fo_n24Check : FnOk Tryz.prog 91 sp_n24Check := fnOk_of (C := c_n24Check) iv_n24Check Tryz.func91 rfl (by kernel_rfl) tys_ok (prims_cons (spec_prim fo_nName) (prims_cons (spec_prim fo_nRCk) (prims_cons (spec_prim fo_hCheck) (prims_cons (spec_prim fo_n24one) prims_nil)))) mixed_ (Nat.le_refl _) rfl fun y x h1 h2 h3 h4 =>
  Eq.mpr (w_n24Check y x) (m_n24Check y x h2 h3)
theorem few_lngF {f : Fr} (h : lngF f = false) : Few f := by
  unfold lngF isLong at h
  simp only [Bool.or_eq_false_iff, decide_eq_false_iff_not] at h
  exact ⟨by omega, by omega⟩
theorem few_lngG {a : Ga} (h : lngG a = false) : FewG a := by
  unfold lngG at h
  rw [Bool.or_eq_false_iff] at h
  exact ⟨few_lngF h.1, few_lngF h.2⟩
theorem few_longGs {l : List (El tG)} (h : longGs l = false) : ∀ g ∈ l, FewG (toGa g) := fun g hg => by
  unfold longGs at h
  rw [List.any_eq_false] at h
  exact few_lngG (by simpa using h g hg)
theorem few_gz : FewG Ga.zero := ⟨few_zero, few_zero⟩
theorem gsplit_few1 (t r : Ga) : FewG (toGa (gsplit t r).1) := by
  unfold gsplit
  repeat' split
  all_goals first | exact few_gz | exact gquo_few _ _
theorem gsplit_few2 (t r : Ga) : FewG (toGa (gsplit t r).2.1) := by
  unfold gsplit
  repeat' split
  all_goals first | exact few_gz | exact gmul_few _ _
noncomputable def sp_lawInferSplit : Spec := { q := .un, ps := [tG, tG, tRule], rs := [.bo], fresh := true, pre := fun _ _ => none, post := fun _ _ => ((), (true, ())) }
noncomputable def iv_lawInferSplit (y : El sp_lawInferSplit.q) (x : Els sp_lawInferSplit.ps) : Nat → Option Inv := fun _ => none
noncomputable abbrev c_lawInferSplit : Cfg := cfgS (Tryz.f7).ntmps false [(86, sp_kLongG.prim), (39, sp_kLentG.prim), (87, sp_iSplit.prim), (88, sp_n24Split.prim), (89, sp_kSameGauss.prim), (90, sp_iCheck.prim), (91, sp_n24Check.prim), (56, sp_kKeptG.prim), (69, p_apartG)]
def F_lawInferSplit (y : El sp_lawInferSplit.q) (x : Els sp_lawInferSplit.ps) : Prop :=
  ∀ (r : El Ty.un × Els [Ty.bo]), r = ((), longGs [x.fst, x.snd.fst, x.snd.snd.fst.snd.snd.snd.fst], ()) → (r.snd.fst = true → (true, ()) = (true, ())) ∧ (r.snd.fst = false → (((toFr x.fst.fst).num.length ≤ (1000000 : Nat) ∧ (toFr x.fst.fst).den.length ≤ (1000000 : Nat)) ∧ (toFr x.fst.snd.fst).num.length ≤ (1000000 : Nat) ∧ (toFr x.fst.snd.fst).den.length ≤ (1000000 : Nat)) ∧ ∀ (r : El Ty.un × Els [tGL]), r = ((), x.fst, ()) → (((toFr x.snd.fst.fst).num.length ≤ (1000000 : Nat) ∧ (toFr x.snd.fst.fst).den.length ≤ (1000000 : Nat)) ∧ (toFr x.snd.fst.snd.fst).num.length ≤ (1000000 : Nat) ∧ (toFr x.snd.fst.snd.fst).den.length ≤ (1000000 : Nat)) ∧ ∀ (r_1 : El Ty.un × Els [tGL]), r_1 = ((), x.snd.fst, ()) → ∀ (r_2 : El Ty.un × Els [tG, tG, Ty.it IntKind.i64]), r_2 = ((), gsplit (toGa r.snd.fst) (toGa r_1.snd.fst)) → ∀ (r_3 : El Ty.un × Els [tG, tG, Ty.it IntKind.i64]), r_3 = ((), gsplit (toGa x.fst) (toGa x.snd.fst)) → (((toFr x.snd.snd.fst.snd.snd.snd.fst.fst).num.length ≤ (1000000 : Nat) ∧ (toFr x.snd.snd.fst.snd.snd.snd.fst.fst).den.length ≤ (1000000 : Nat)) ∧ (toFr x.snd.snd.fst.snd.snd.snd.fst.snd.fst).num.length ≤ (1000000 : Nat) ∧ (toFr x.snd.snd.fst.snd.snd.snd.fst.snd.fst).den.length ≤ (1000000 : Nat)) ∧ ∀ (r_4 : El Ty.un × Els [tGL]), r_4 = ((), x.snd.snd.fst.snd.snd.snd) → ((r_2.snd.snd.snd.fst != r_3.snd.snd.snd.fst) = true → (false, ()) = (true, ())) ∧ ((r_2.snd.snd.snd.fst != r_3.snd.snd.snd.fst) = false → ∀ (r_5 : El Ty.un × Els [Ty.bo]), r_5 = ((), decide (toGa r_2.snd.fst = toGa r_3.snd.fst), ()) → ((!r_5.snd.fst) = true → (false, ()) = (true, ())) ∧ ((!r_5.snd.fst) = false → ∀ (r_6 : El Ty.un × Els [Ty.bo]), r_6 = ((), decide (toGa r_2.snd.snd.fst = toGa r_3.snd.snd.fst), ()) → ((!r_6.snd.fst) = true → (false, ()) = (true, ())) ∧ ((!r_6.snd.fst) = false → ∀ (r_7 : El Ty.un × Els [Ty.it IntKind.i64]), r_7 = ((), rchk (x.snd.snd.fst.fst, x.snd.snd.fst.snd.fst, x.snd.snd.fst.snd.snd.fst, r_4.snd), ()) → ∀ (r_8 : El Ty.un × Els [Ty.it IntKind.i64]), r_8 = ((), rchk x.snd.snd.fst, ()) → ((r_7.snd.fst != r_8.snd.fst) = true → (false, ()) = (true, ())) ∧ ((r_7.snd.fst != r_8.snd.fst) = false → (toGaL r.snd.fst = toGa x.fst ∧ ((toFr x.fst.fst).num.length ≤ (1000000 : Nat) ∧ (toFr x.fst.fst).den.length ≤ (1000000 : Nat)) ∧ (toFr x.fst.snd.fst).num.length ≤ (1000000 : Nat) ∧ (toFr x.fst.snd.fst).den.length ≤ (1000000 : Nat)) ∧ ∀ (r_9 : El Ty.un × Els [Ty.bo]), r_9 = ((), true, ()) → (r_9.snd.fst = true → (toGaL r_1.snd.fst = toGa x.snd.fst ∧ ((toFr x.snd.fst.fst).num.length ≤ (1000000 : Nat) ∧ (toFr x.snd.fst.fst).den.length ≤ (1000000 : Nat)) ∧ (toFr x.snd.fst.snd.fst).num.length ≤ (1000000 : Nat) ∧ (toFr x.snd.fst.snd.fst).den.length ≤ (1000000 : Nat)) ∧ ∀ (r_10 : El Ty.un × Els [Ty.bo]), r_10 = ((), true, ()) → (r_10.snd.fst = true → (toGaL r_4.snd.fst = toGa x.snd.snd.fst.snd.snd.snd.fst ∧ ((toFr x.snd.snd.fst.snd.snd.snd.fst.fst).num.length ≤ (1000000 : Nat) ∧ (toFr x.snd.snd.fst.snd.snd.snd.fst.fst).den.length ≤ (1000000 : Nat)) ∧ (toFr x.snd.snd.fst.snd.snd.snd.fst.snd.fst).num.length ≤ (1000000 : Nat) ∧ (toFr x.snd.snd.fst.snd.snd.snd.fst.snd.fst).den.length ≤ (1000000 : Nat)) ∧ ∀ (r_11 : El Ty.un × Els [Ty.bo]), r_11 = ((), true, ()) → (r_11.snd.fst = true → ((0 : Nat) < [r_2.snd.fst, r_2.snd.snd.fst, r.snd.fst, r_1.snd.fst].length ∧ [r_2.snd.fst, r_2.snd.snd.fst, r.snd.fst, r_1.snd.fst].length ≤ (5000 : Nat) ∧ ∀ (f : Fr), f ∈ List.flatMap (fun (x : El tG) => [toFr x.fst, toFr x.snd.fst]) [r_2.snd.fst, r_2.snd.snd.fst, r.snd.fst, r_1.snd.fst] → f.num.length ≤ (1000000 : Nat) ∧ f.den.length ≤ (1000000 : Nat)) ∧ (true, ()) = (true, ())) ∧ (r_11.snd.fst = false → (false, ()) = (true, ()))) ∧ (r_10.snd.fst = false → (false, ()) = (true, ()))) ∧ (r_9.snd.fst = false → (false, ()) = (true, ())))))))
set_option maxRecDepth 100000 in
theorem w_lawInferSplit (y : El sp_lawInferSplit.q) (x : Els sp_lawInferSplit.ps) : aw c_lawInferSplit (iv_lawInferSplit y x) (codeOf Tryz.f7) 0 (retQ c_lawInferSplit sp_lawInferSplit (Tryz.f7).results.toList y x) (startT sp_lawInferSplit x) (startO sp_lawInferSplit y) 1 = F_lawInferSplit y x := by kernel_rfl
theorem m_lawInferSplit (y : El (.un)) (x : Els [tG, tG, tRule]) (h2 : wfE (.un) y) (h3 : wfEs [tG, tG, tRule] x) : F_lawInferSplit y x := by
  unfold F_lawInferSplit
  rintro _ rfl
  refine ⟨fun _ => rfl, fun h1 => ?_⟩
  have fl := few_longGs h1
  have fa : FewG (toGa x.1) := fl _ (by simp)
  have fb : FewG (toGa x.2.1) := fl _ (by simp)
  have fc : FewG (toGa x.2.2.1.2.2.2.1) := fl _ (by simp)
  refine ⟨fa, ?_⟩
  rintro _ rfl
  refine ⟨fb, ?_⟩
  rintro _ rfl _ rfl _ rfl
  refine ⟨fc, ?_⟩
  rintro _ rfl
  refine ⟨fun h => absurd h (by simp), fun _ => ?_⟩
  rintro _ rfl
  refine ⟨fun h => absurd h (by simp), fun _ => ?_⟩
  rintro _ rfl
  refine ⟨fun h => absurd h (by simp), fun _ => ?_⟩
  rintro _ rfl
  rintro _ rfl
  refine ⟨fun h => absurd h (by simp), fun _ => ?_⟩
  refine ⟨⟨rfl, fa⟩, ?_⟩
  rintro _ rfl
  refine ⟨fun _ => ?_, fun h => absurd h (by simp)⟩
  refine ⟨⟨rfl, fb⟩, ?_⟩
  rintro _ rfl
  refine ⟨fun _ => ?_, fun h => absurd h (by simp)⟩
  refine ⟨⟨rfl, fc⟩, ?_⟩
  rintro _ rfl
  refine ⟨fun _ => ?_, fun h => absurd h (by simp)⟩
  refine ⟨⟨(by decide : 0 < 4), (by decide : 4 ≤ 5000), fews_G ?_⟩, rfl⟩
  exact .cons (gsplit_few1 _ _) (.cons (gsplit_few2 _ _) (.cons fa (.cons fb .nil)))
set_option maxRecDepth 100000 in
theorem fo_lawInferSplit : FnOk Tryz.prog 7 sp_lawInferSplit := fnOk_of (C := c_lawInferSplit) iv_lawInferSplit Tryz.func7 rfl (by kernel_rfl) tys_ok (prims_cons (spec_prim fo_kLongG) (prims_cons (spec_prim fo_kLentG) (prims_cons (spec_prim fo_iSplit) (prims_cons (spec_prim fo_n24Split) (prims_cons (spec_prim fo_kSameGauss) (prims_cons (spec_prim fo_iCheck) (prims_cons (spec_prim fo_n24Check) (prims_cons (spec_prim fo_kKeptG) (prims_cons pr_apartG prims_nil))))))))) mixed_ (Nat.le_refl _) rfl fun y x h1 h2 h3 h4 =>
  Eq.mpr (w_lawInferSplit y x) (m_lawInferSplit y x h2 h3)
end Go.Proofs.YtifonmdcicegdaaGreat

namespace Go.Proofs.YtifonmdcicegdaaGreat
open Go.ChangeShapes Go.WideShapes Go.ChangeAt Go.RowKit Go.Joins Go.Deep
set_option linter.unusedVariables false

section
variable {H : Type} {enc : TypeId × Value → H} {P : Program} {w : World} {base : Nat} {spare : Nat → Bool} {held : Bool}
end

theorem mk_own : ownKnob Tryz.prog.godebug = none := by kernel_rfl
theorem mk_laidOut : laidOutB Tryz.prog = true := by kernel_rfl

end Go.Proofs.YtifonmdcicegdaaGreat

namespace Go.Proofs.YtifonmdcicegdaaGreat
open Go Go.RowKit Go.ChangeShapes Go.WideShapes Go.ChangeAt Go.Joins Go.Deep

/-- a form of what comes in -/
def Ty.inn : Ty → Bool
  | .bo => true
  | .it _ => true
  | .st => true
  | .sl t => t.inn && !Nat.beq t.size 0
  | .pr a b => a.inn && b.inn
  | .un => true
  | _ => false
abbrev Zw (W : World) : Nat → Prop := fun g => g < W.heap.size
theorem lit_wf {k : IntKind} {n : Int} (h : (Lit.int k n).wf = true) : k.min ≤ n ∧ n ≤ k.max := by simpa [Lit.wf] using h
theorem inn_struct {P : Program} {tb : Tbl} {t e : Nat} {a b : Ty} (h : TyOk P tb t (.pr a b) e) : ∃ fs, P.underlying t = some (.struct fs) ∧ fsB tb (.pr a b) 0 fs.toList = true := by
  obtain ⟨d, h1, h2⟩ := h.und
  unfold dscB at h2
  split at h2 <;> first
    | (cases h2; done)
    | (rename_i e2; cases e2; done)
    | skip
  all_goals
    rename_i e2
    cases e2
    exact ⟨_, h1, h2⟩
theorem inn_slice {P : Program} {tb : Tbl} {t e : Nat} {u : Ty} (h : TyOk P tb t (.sl u) e) : P.underlying t = some (.slice e) ∧ ∃ e', look tb e = some (u, e') := by
  obtain ⟨d, h1, h2⟩ := h.und
  unfold dscB at h2
  split at h2 <;> first
    | (cases h2; done)
    | (rename_i e2; cases e2; done)
    | skip
  all_goals
    rename_i e2
    cases e2
    simp only [Bool.and_eq_true] at h2
    rw [Nat.eq_of_beq_eq_true h2.1] at h1
    exact ⟨h1, isT_look h2.2⟩
theorem size_of_ {P : Program} {tb : Tbl} {t e : Nat} {y : Ty} (h : TyOk P tb t y e) : P.cellsOf t = y.size := by
  obtain ⟨i, z, h1, h2, _⟩ := h.info
  simp [Program.cellsOf, h1, h2]
/-- cells that come in say a value -/
theorem rt_in {H : Type} {enc : TypeId × Value → H} {P : Program} {W : World} {tb : Tbl} (hT : tyB P tb tb = true) : ∀ (y : Ty), y.inn = true →
    (∀ {t e fuel : Nat} {cs : List Value} {x : DataW H × List MemPlace}, look tb t = some (y, e) → DataW.trod enc P W 0 (fun _ => true) true fuel t cs = some x → ∃ v : El y, RT (Zw W) W y v cs) ∧
    (∀ {o : Nat} {fs : List Field} {cs : List Value}, fsB tb y o fs = true → (∀ (i : Nat) (f : Field), fs[i]? = some f → ∃ (n : Nat) (x : DataW H × List MemPlace), DataW.trod enc P W 0 (fun _ => true) true n f.type ((cs.drop f.offset).take (P.cellsOf f.type)) = some x) → cs.length = o + y.size → ∃ v : El y, RT (Zw W) W y v (cs.drop o))
  | .bo, _ => by
    refine ⟨fun {t e fuel cs x} hl h => ?_, fun {o fs cs} h _ _ => by simp [fsB] at h⟩
    obtain ⟨d, h1, h2⟩ := (tyB_sound hT hl).und
    have : d = .bool := by cases d <;> simp [dscB] at h2; rfl
    subst this
    obtain ⟨b, rfl, _⟩ := DataW.trod_bool h1 h
    exact ⟨b, by rw [RT]⟩
  | .it k, _ => by
    refine ⟨fun {t e fuel cs x} hl h => ?_, fun {o fs cs} h _ _ => by simp [fsB] at h⟩
    obtain ⟨d, h1, h2⟩ := (tyB_sound hT hl).und
    have : d = .int k := by cases d <;> simp [dscB] at h2; rw [h2]
    subst this
    obtain ⟨n, rfl, _, hw⟩ := DataW.trod_int h1 h
    exact ⟨n, by rw [RT]; exact ⟨rfl, lit_wf hw⟩⟩
  | .st, _ => by
    refine ⟨fun {t e fuel cs x} hl h => ?_, fun {o fs cs} h _ _ => by simp [fsB] at h⟩
    obtain ⟨d, h1, h2⟩ := (tyB_sound hT hl).und
    have : d = .string := by cases d <;> simp [dscB] at h2; rfl
    subst this
    obtain ⟨s, rfl, _, hs⟩ := DataW.trod_string h1 h
    exact ⟨s, by rw [RT]; exact ⟨rfl, by simp only [maxLen] at hs; omega⟩⟩
  | .un, _ => by
    refine ⟨fun {t e fuel cs x} hl h => ?_, fun {o fs cs} _ _ hl => ⟨(), by rw [RT]; exact List.drop_of_length_le (by rw [hl]; exact Nat.le_refl _)⟩⟩
    obtain ⟨d, h1, h2⟩ := (tyB_sound hT hl).und
    cases d with
    | struct fs =>
      obtain ⟨xs, n, _, _, hl', _⟩ := DataW.trod_struct h1 h
      rw [size_of_ (tyB_sound hT hl)] at hl'
      exact ⟨(), by rw [RT]; exact List.eq_nil_of_length_eq_zero hl'⟩
    | _ => simp [dscB] at h2
  | .sl u, hy => by
    refine ⟨fun {t e fuel cs x} hl h => ?_, fun {o fs cs} h _ _ => by simp [fsB] at h⟩
    simp only [Ty.inn, Bool.and_eq_true, Bool.not_eq_true'] at hy
    have hu : u.size ≠ 0 := fun e0 => by rw [e0] at hy; exact absurd hy.2 (by decide)
    obtain ⟨h1, e', h2⟩ := inn_slice (tyB_sound hT hl)
    have hs := size_of_ (tyB_sound hT h2)
    rcases open_slice h1 h with ⟨rfl, _⟩ | ⟨a, len, cap, m, n, D, Pl, rfl, _, hl2, hm, rfl, _, hi⟩
    · exact ⟨[], RT.sl_nil _ _ _⟩
    · have hi : ∀ i, i < m → ∃ cs', W.cells? 0 (a.add (i * P.cellsOf e)) (P.cellsOf e) = some cs' ∧ DataW.trod enc P W 0 (fun _ => true) true n e cs' = some (D i, Pl i) := fun i hic => hi i hic
      simp only [maxLen] at hm
      have each : ∀ j, j < len → ∃ v : El u, ∃ us, RT (Zw W) W u v us ∧ us.length = u.size ∧ ∀ (i : Nat) (z : Value), us[i]? = some z → W.cell? ((a.add (j * u.size)).add i) = some z := fun j hj => by
        obtain ⟨us, k1, k2⟩ := hi j (by omega)
        obtain ⟨_, k3, k4⟩ := World.cells?_some k1
        obtain ⟨v, hv⟩ := (rt_in hT u hy.1).1 h2 k2
        rw [hs] at k3 k4
        refine ⟨v, us, hv, k3, fun i z hz => ?_⟩
        rw [k4 i (by rw [← k3]; exact (List.getElem?_eq_some_iff.1 hz).1)]
        exact hz
      haveI : Inhabited (El u) := ⟨dfl u⟩
      obtain ⟨f, hf⟩ := choose_lt each
      have hlen : ((List.range len).map f).length = len := by simp
      refine ⟨(List.range len).map f, ?_⟩
      rw [RT]
      refine ⟨some a, m, by rw [hlen], by rw [hlen]; exact hl2, by omega, (fun e => by cases e), fun j hj => ?_⟩
      rw [hlen] at hj
      obtain ⟨us, k1, k2, k3⟩ := hf j hj
      have e1 : ((List.range len).map f)[j]'(by rw [hlen]; exact hj) = f j := by simp
      rw [e1]
      have hpos : 0 < us.length := by omega
      obtain ⟨us0, _, l2, l3⟩ := hf 0 (by omega)
      have d0 := l3 0 _ (List.getElem?_eq_getElem (show 0 < us0.length by omega))
      have c0 := k3 0 _ (List.getElem?_eq_getElem hpos)
      obtain ⟨g, o, s⟩ := a
      cases s with
      | some s =>
        exfalso
        have e3 : ((⟨g, o, some s⟩ : Addr).add (0 * u.size)).add 0 = ⟨g, o, some s⟩ := by rw [Nat.zero_mul]; rfl
        rw [e3] at d0
        unfold World.cell? at d0
        split at d0 <;> simp at d0
      | none =>
        have e2 : ∀ i, ((⟨g, o, none⟩ : Addr).add (j * u.size)).add i = ⟨g, o + (j * u.size + i), none⟩ := fun i => by rw [add_plain, add_plain, Nat.add_assoc]
        refine ⟨g, o, us, rfl, ?_, k1, fun i z hz => ?_⟩
        · rw [e2] at c0
          exact World.block_lt_of_cell? W _ c0
        · have := k3 i z hz
          rw [e2] at this
          exact this
  | .pr a b, hy => by
    simp only [Ty.inn, Bool.and_eq_true] at hy
    have key : ∀ {o : Nat} {fs : List Field} {cs : List Value}, fsB tb (.pr a b) o fs = true → (∀ (i : Nat) (f : Field), fs[i]? = some f → ∃ (n : Nat) (x : DataW H × List MemPlace), DataW.trod enc P W 0 (fun _ => true) true n f.type ((cs.drop f.offset).take (P.cellsOf f.type)) = some x) → cs.length = o + (Ty.pr a b).size → ∃ v : El (.pr a b), RT (Zw W) W (.pr a b) v (cs.drop o) := fun {o fs cs} h hf hl => by
      cases fs with
      | nil => simp [fsB] at h
      | cons f fs =>
        simp only [fsB, Bool.and_eq_true] at h
        obtain ⟨⟨h1, h2⟩, h3⟩ := h
        obtain ⟨e, h2⟩ := isT_look h2
        obtain ⟨n, x, h4⟩ := hf 0 f rfl
        obtain ⟨v, hv⟩ := (rt_in hT a hy.1).1 h2 h4
        have hl' : cs.length = o + a.size + b.size := by rw [hl]; show o + (a.size + b.size) = _; omega
        obtain ⟨v', hv'⟩ := (rt_in hT b hy.2).2 h3 (fun i f' h => hf (i + 1) f' (by simpa using h)) hl'
        rw [Nat.eq_of_beq_eq_true h1, size_of_ (tyB_sound hT h2)] at hv
        refine ⟨(v, v'), ?_⟩
        rw [RT]
        refine ⟨_, _, ?_, hv, hv'⟩
        rw [← List.drop_drop, List.take_append_drop]
    refine ⟨fun {t e fuel cs x} hl h => ?_, key⟩
    obtain ⟨fs, h1, h2⟩ := inn_struct (tyB_sound hT hl)
    obtain ⟨xs, n, _, _, h3, h4, h5⟩ := DataW.trod_struct h1 h
    rw [size_of_ (tyB_sound hT hl)] at h3
    have := key (cs := cs) h2 (fun i f hf => by
      have hi := (List.getElem?_eq_some_iff.1 hf).1
      have h6 := h5 i f (by simpa using hf)
      have h7 : i < xs.length := by rw [h4]; simpa using hi
      exact ⟨n, xs[i], h6.trans (List.getElem?_eq_getElem h7)⟩) (by omega)
    simpa using this
  | .pt _, h => by cases h
  | .fn, h => by cases h
  | .lt _, h => by cases h
  | .lf _, h => by cases h
  | .oq, h => by cases h
/-- an argument that comes in, by value -/
theorem rv_in {H : Type} {enc : TypeId × Value → H} {P : Program} {W : World} {tb : Tbl} (hT : tyB P tb tb = true) {b0 t e : Nat} (y : Ty) (hy : y.inn = true) (hl : look tb t = some (y, e)) {v : Value} {d : DataW H} {p : List MemPlace} (hv : Value.okWide P W .any b0 t v) (h : DataW.Trod enc P W 0 (fun _ => true) true t v d p) : ∃ x : El y, RV (Zw W) W y x v := by
  obtain ⟨fuel, h⟩ := h
  have hty := tyB_sound hT hl
  obtain ⟨x, hx⟩ := (rt_in hT y hy).1 hl h
  refine ⟨x, ?_⟩
  unfold RV
  have one : v.cells.toList = [v] → y.agg = false → (if y.agg = true then ∃ us, v = .agg us ∧ RT (Zw W) W y x us.toList else RT (Zw W) W y x [v]) := fun h1 h2 => by
    rw [if_neg (by simp [h2]), ← h1]; exact hx
  obtain ⟨dsc, u1, u2⟩ := hty.und
  cases y with
  | bo =>
    have : dsc = .bool := by cases dsc <;> simp [dscB] at u2; rfl
    subst this
    obtain ⟨b, rfl⟩ := okWide_bool u1 hv
    exact one rfl rfl
  | it k =>
    have : dsc = .int k := by cases dsc <;> simp [dscB] at u2; rw [u2]
    subst this
    obtain ⟨n, rfl⟩ := okWide_int u1 hv
    exact one rfl rfl
  | st =>
    have : dsc = .string := by cases dsc <;> simp [dscB] at u2; rfl
    subst this
    obtain ⟨n, rfl⟩ := okWide_string u1 hv
    exact one rfl rfl
  | sl u =>
    obtain ⟨h1, _⟩ := inn_slice hty
    obtain ⟨A, l, c, rfl⟩ := okWide_slice h1 hv
    exact one rfl rfl
  | un =>
    cases dsc with
    | struct fs =>
      obtain ⟨cs, rfl, _⟩ := okWide_struct u1 hv
      rw [if_pos (show Ty.un.agg = true from rfl)]
      exact ⟨cs, rfl, hx⟩
    | _ => simp [dscB] at u2
  | pr a b =>
    obtain ⟨fs, h1, _⟩ := inn_struct hty
    obtain ⟨cs, rfl, _⟩ := okWide_struct h1 hv
    rw [if_pos (show (Ty.pr a b).agg = true from rfl)]
    exact ⟨cs, rfl, hx⟩
  | pt _ => cases hy
  | fn => cases hy
  | lt _ => cases hy
  | lf _ => cases hy
  | oq => cases hy
/-- a law's call -/
theorem law_calls {P : Program} {f : Nat} {ps : List Ty} (h : FnOk P f { q := .un, ps := ps, rs := [.bo], fresh := true, pre := fun _ _ => none, post := fun _ _ => ((), (true, ())) }) {W : World} {x : Els ps} {vs : List Value} (hv : RVs (Zw W) W ps x vs) : Calls P f vs.toArray W fun e W' => e = .returned (.bool true) ∧ Below W.heap.size W W' := by
  refine (h.2 (Zw W) W 0 vs () x (fun g hg => hg) hv trivial (fun e => by cases e) (fun _ => rfl)).mono ?_
  rintro e w' ⟨v, us, bs, Z', rfl, t1, t2, _, _, _, _, _, t8, _⟩
  have t8 : W.grownBy w' none := t8
  refine ⟨?_, t8.os, t8.tape, t8.output, t8.size, fun k hk => t8.block k hk (by simp)⟩
  match us, t2 with
  | [u], ⟨b, b', _, h1, h2⟩ =>
    have h1 : RT _ w' .bo true [u] ∧ b = [] := h1
    rw [RT] at h1
    have e1 : u = .bool true := by simpa using h1.1
    rcases t1 with ⟨u', e2, rfl⟩ | ⟨h3, _⟩
    · cases e2; rw [e1]
    · simp at h3
end Go.Proofs.YtifonmdcicegdaaGreat

