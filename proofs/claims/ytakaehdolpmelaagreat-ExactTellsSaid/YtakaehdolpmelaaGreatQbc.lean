/- Texts of this claim, joined: B36. -/
import Derived.Test.YtakaehdolpmelaaGreatQbb
set_option linter.unusedVariables false
set_option linter.unusedSimpArgs false
set_option maxRecDepth 100000
namespace Go.Proofs.YtakaehdolpmelaaGreat
open Go Go.RowKit
def likeT (a b : El tTide) : Bool := decide (a.1 = b.1) || decide (a.2.1 = b.2.1)
def thereB (l : List (El tTide)) (t : El tTide) : Bool := (List.range l.length).any fun j => likeT (tdAt l j) t
theorem there_hit {l : List (El tTide)} {t : El tTide} {i n : Nat} (h : i < n) (k : likeT (tdAt l i) t = true) : ((List.range n).any fun j => likeT (tdAt l j) t) = true := by
  rw [List.any_eq_true]
  exact ⟨i, List.mem_range.2 h, k⟩
theorem any_succ_ {f : Nat → Bool} {i : Nat} (h : (List.range i).any f = false) (k : f i = false) : (List.range (i + 1)).any f = false := by
  rw [List.range_succ, List.any_append, h]
  simp [k]
noncomputable def sp_n14there : Spec := { q := .un, ps := [.sl tTide, tTide], rs := [.bo], fresh := false, pre := fun _ _ => none, post := fun _ x => ((), (thereB x.1 x.2.1, ())) }
noncomputable def iv_n14there (y : El sp_n14there.q) (x : Els sp_n14there.ps) : Nat → Option Inv := fun k => if k = 0 then some { X := Nat, tm := fun i => [(0, .c (.sl tTide x.1)), (3, .c (.pv 1 0)), (5, .c (.sc (.int .i64 i)))], ob := fun i => [(1, .var (cel tTide x.2.1))], n := 2, I := fun i => i ≤ x.1.length ∧ ((List.range i).any fun j => likeT (tdAt x.1 j) x.2.1) = false, μ := fun i => x.1.length - i } else none
noncomputable abbrev c_n14there : Cfg := cfgS (Tryz.f109).ntmps false []
def F_n14there (y : El sp_n14there.q) (x : Els sp_n14there.ps) : Prop :=
  (∃ (x_1 : Nat), x.1 = x.1 ∧ (↑x_1 : Int) = (0 : Int) ∧ x.2.1.1 = x.2.1.1 ∧ x.2.1.2.1.1 = x.2.1.2.1.1 ∧ x.2.1.2.1.2.1 = x.2.1.2.1.2.1 ∧ x.2.1.2.2.1.1.1 = x.2.1.2.2.1.1.1 ∧ x.2.1.2.2.1.1.2.1 = x.2.1.2.2.1.1.2.1 ∧ x.2.1.2.2.1.1.2.2.1 = x.2.1.2.2.1.1.2.2.1 ∧ x.2.1.2.2.1.2.1.1 = x.2.1.2.2.1.2.1.1 ∧ x.2.1.2.2.1.2.1.2.1 = x.2.1.2.2.1.2.1.2.1 ∧ x.2.1.2.2.1.2.1.2.2.1 = x.2.1.2.2.1.2.1.2.2.1 ∧ x_1 ≤ List.length x.1 ∧ ((List.range x_1).any fun (j : Nat) => likeT (tdAt x.1 j) x.2.1) = false) ∧ ∀ (x_1 : Nat), x_1 ≤ List.length x.1 ∧ ((List.range x_1).any fun (j : Nat) => likeT (tdAt x.1 j) x.2.1) = false → (decide ((↑x_1 : Int) < (x.1.length : Int)) = true → ((0 : Int) ≤ (↑x_1 : Int) ∧ (↑x_1 : Int) < (x.1.length : Int)) ∧ ((ByteArray.toList (List.getD x.1 (↑x_1 : Int).toNat (dfl tTide)).1 == ByteArray.toList x.2.1.1) = true → (true, ()) = (thereB x.1 x.2.1, ())) ∧ ((ByteArray.toList (List.getD x.1 (↑x_1 : Int).toNat (dfl tTide)).1 == ByteArray.toList x.2.1.1) = false → ((0 : Int) ≤ (↑x_1 : Int) ∧ (↑x_1 : Int) < (x.1.length : Int)) ∧ (eqV tRot (List.getD x.1 (↑x_1 : Int).toNat (dfl tTide)).2.1 x.2.1.2.1 = true → (true, ()) = (thereB x.1 x.2.1, ())) ∧ (eqV tRot (List.getD x.1 (↑x_1 : Int).toNat (dfl tTide)).2.1 x.2.1.2.1 = false → ((-9223372036854775808 : Int) ≤ (↑x_1 : Int) + (1 : Int) ∧ (↑x_1 : Int) + (1 : Int) ≤ (9223372036854775807 : Int)) ∧ ∃ (x' : Nat), x.1 = x.1 ∧ (↑x' : Int) = (↑x_1 : Int) + (1 : Int) ∧ x.2.1.1 = x.2.1.1 ∧ x.2.1.2.1.1 = x.2.1.2.1.1 ∧ x.2.1.2.1.2.1 = x.2.1.2.1.2.1 ∧ x.2.1.2.2.1.1.1 = x.2.1.2.2.1.1.1 ∧ x.2.1.2.2.1.1.2.1 = x.2.1.2.2.1.1.2.1 ∧ x.2.1.2.2.1.1.2.2.1 = x.2.1.2.2.1.1.2.2.1 ∧ x.2.1.2.2.1.2.1.1 = x.2.1.2.2.1.2.1.1 ∧ x.2.1.2.2.1.2.1.2.1 = x.2.1.2.2.1.2.1.2.1 ∧ x.2.1.2.2.1.2.1.2.2.1 = x.2.1.2.2.1.2.1.2.2.1 ∧ (x' ≤ List.length x.1 ∧ ((List.range x').any fun (j : Nat) => likeT (tdAt x.1 j) x.2.1) = false) ∧ List.length x.1 - x' < List.length x.1 - x_1))) ∧ (decide ((↑x_1 : Int) < (x.1.length : Int)) = false → (false, ()) = (thereB x.1 x.2.1, ()))
theorem w_n14there (y : El sp_n14there.q) (x : Els sp_n14there.ps) : aW c_n14there (iv_n14there y x) Tryz.f109 sp_n14there y x = F_n14there y x := by kernel_rfl
theorem m_n14there (y : El (.un)) (x : Els [.sl tTide, tTide]) (h2 : wfE (.un) y) (h3 : wfEs [.sl tTide, tTide] x) : F_n14there y x := by
  unfold F_n14there
  have hL : x.1.length ≤ 9223372036854775807 := h3.1.1
  refine ⟨⟨0, rfl, rfl, rfl, rfl, rfl, rfl, rfl, rfl, rfl, rfl, rfl, Nat.zero_le _, rfl⟩, fun i hi => ⟨fun l => ?_, fun l => ?_⟩⟩
  · obtain ⟨hi, h0⟩ := hi
    have l := ltT l
    have il : i < x.1.length := by omega
    refine ⟨⟨by omega, l⟩, fun k => ?_, fun k => ⟨⟨by omega, l⟩, fun m => ?_, fun m => ⟨by omega, i + 1, rfl, rfl, rfl, rfl, rfl, rfl, rfl, rfl, rfl, rfl, rfl, ⟨il, any_succ_ h0 ?_⟩, by omega⟩⟩⟩
    · have : likeT (tdAt x.1 i) x.2.1 = true := by unfold likeT; rw [Bool.or_eq_true]; exact .inl ((ba_eq _ _).symm.trans k)
      exact congrArg (fun b => (b, ())) (there_hit il this).symm
    · have : likeT (tdAt x.1 i) x.2.1 = true := by unfold likeT; rw [Bool.or_eq_true]; exact .inr ((eq_rot _ _).symm.trans m)
      exact congrArg (fun b => (b, ())) (there_hit il this).symm
    · show likeT (tdAt x.1 i) x.2.1 = false
      unfold likeT
      rw [Bool.or_eq_false_iff]
      exact ⟨(ba_eq _ _).symm.trans k, (eq_rot _ _).symm.trans m⟩
  · obtain ⟨hi, h0⟩ := hi
    have l := ltF l
    have ei : i = x.1.length := by omega
    subst ei
    exact congrArg (fun b => (b, ())) h0.symm
theorem fo_n14there : FnOk Tryz.prog 109 sp_n14there := fnOk_of (C := c_n14there) iv_n14there Tryz.func109 rfl (by kernel_rfl) tys_ok prims_nil mixed_ (Nat.le_refl _) rfl fun y x h1 h2 h3 h4 =>
  Eq.mpr (w_n14there y x) (m_n14there y x h2 h3)
def dupT (l : List (El tTide)) (i : Nat) : Bool := inN (fun j => (tdAt l j).1) i || inR (fun j => (tdAt l j).2.1.1) (fun j => (tdAt l j).2.1.2.1) i
theorem there_dup {l : List (El tTide)} {i : Nat} (h : i < l.length) : thereB (l.take i) (tdAt l i) = dupT l i := by
  unfold thereB dupT inN inR
  have hl : (l.take i).length = i := by rw [List.length_take]; omega
  have e : ∀ j, j ∈ List.range i → tdAt (l.take i) j = tdAt l j := fun j hj => by
    have hj := List.mem_range.1 hj
    unfold tdAt
    rw [List.getD_eq_getElem?_getD, List.getD_eq_getElem?_getD, List.getElem?_take, if_pos hj]
  rw [hl, Bool.eq_iff_iff, Bool.or_eq_true, List.any_eq_true, List.any_eq_true, List.any_eq_true]
  have key : ∀ a b : El tTide, likeT a b = true ↔ a.1 = b.1 ∨ (a.2.1.1 = b.2.1.1 ∧ a.2.1.2.1 = b.2.1.2.1) := fun a b => by
    unfold likeT
    rw [Bool.or_eq_true, decide_eq_true_eq, decide_eq_true_eq]
    constructor
    · rintro (h | h)
      · exact .inl h
      · exact .inr ⟨by rw [h], by rw [h]⟩
    · rintro (h | ⟨h, k⟩)
      · exact .inl h
      · refine .inr ?_
        obtain ⟨_, ⟨p, q, _⟩, _⟩ := a
        obtain ⟨_, ⟨r, s, _⟩, _⟩ := b
        have h : p = r := h
        have k : q = s := k
        rw [h, k]
  constructor
  · rintro ⟨j, hj, h⟩
    rw [e j hj] at h
    rcases (key _ _).1 h with h | h
    · exact .inl ⟨j, hj, decide_eq_true h⟩
    · exact .inr ⟨j, hj, decide_eq_true h⟩
  · rintro (⟨j, hj, h⟩ | ⟨j, hj, h⟩)
    · exact ⟨j, hj, by rw [e j hj]; exact (key _ _).2 (.inl (of_decide_eq_true h))⟩
    · exact ⟨j, hj, by rw [e j hj]; exact (key _ _).2 (.inr (of_decide_eq_true h))⟩
section
variable {x : El tPort}
theorem pI_1 (h : nameS x.1 = false) : portI x = (4, -1) := if_pos h
theorem pI_2 (h : nameS x.1 = true) (k : fchk (toFr x.2.1) ≠ 0) : portI x = (fchk (toFr x.2.1), -1) := (if_neg (by rw [h]; decide)).trans (if_pos k)
theorem pI_3 (h : nameS x.1 = true) (k : fchk (toFr x.2.1) = 0) (l : 24 < x.2.2.1.length) : portI x = (3, -1) := (if_neg (by rw [h]; decide)).trans ((if_neg (fun c => c k)).trans (if_pos l))
theorem pI_4 (h : nameS x.1 = true) (k : fchk (toFr x.2.1) = 0) (l : ¬ 24 < x.2.2.1.length) : portI x = pcF (fun i => tchk (tdAt x.2.2.1 i)) (dupT x.2.2.1) 0 x.2.2.1.length := (if_neg (by rw [h]; decide)).trans ((if_neg (fun c => c k)).trans (if_neg l))
theorem pR_of {e i : Int} (h : portI x = (e, i)) : (((e, i, ()), ()) : El tFault × Unit) = (portR x, ()) := by
  unfold portR
  rw [h]
end
noncomputable def sp_n14Check : Spec := { q := .un, ps := [tPort], rs := [tFault], fresh := false, pre := fun _ _ => none, post := fun _ x => ((), (portR x.1, ())) }
noncomputable def iv_n14Check (y : El sp_n14Check.q) (x : Els sp_n14Check.ps) : Nat → Option Inv := fun k => if k = 0 then some { X := Nat, tm := fun i => [(1, .c (.pv 1 0)), (2, .c (.pv 2 0)), (5, .c (.sc (.int .i64 i)))], ob := fun i => [(1, .var (cel tPort x.1)), (2, .var (zer tFault))], n := 3, I := fun i => i ≤ x.1.2.2.1.length ∧ pcF (fun i => tchk (tdAt x.1.2.2.1 i)) (dupT x.1.2.2.1) 0 x.1.2.2.1.length = pcF (fun i => tchk (tdAt x.1.2.2.1 i)) (dupT x.1.2.2.1) i (x.1.2.2.1.length - i), μ := fun i => x.1.2.2.1.length - i } else none
noncomputable abbrev c_n14Check : Cfg := cfgS (Tryz.f60).ntmps false [(105, sp_nName.prim), (108, sp_nCheck.prim), (56, sp_nTCk.prim), (109, sp_n14there.prim)]
def F_n14Check (y : El sp_n14Check.q) (x : Els sp_n14Check.ps) : Prop :=
  ∀ (r : Ro [Ty.bo]), r = ((), nameS x.1.1, ()) → ((!r.2.1) = true → (((4 : Int), (-1 : Int), ()), ()) = (portR x.1, ())) ∧ ((!r.2.1) = false → ∀ (r : Ro [Ty.it IntKind.i64]), r = ((), fchk (toFr x.1.2.1), ()) → ((r.2.1 != (0 : Int)) = true → ((r.2.1, (-1 : Int), ()), ()) = (portR x.1, ())) ∧ ((r.2.1 != (0 : Int)) = false → (decide ((x.1.2.2.1.length : Int) > (24 : Int)) = true → (((3 : Int), (-1 : Int), ()), ()) = (portR x.1, ())) ∧ (decide ((x.1.2.2.1.length : Int) > (24 : Int)) = false → (∃ (x_1 : Nat), (↑x_1 : Int) = (0 : Int) ∧ x.1.1 = x.1.1 ∧ x.1.2.1.1 = x.1.2.1.1 ∧ x.1.2.1.2.1 = x.1.2.1.2.1 ∧ x.1.2.1.2.2.1 = x.1.2.1.2.2.1 ∧ x.1.2.2.1 = x.1.2.2.1 ∧ (0 : Int) = (0 : Int) ∧ (0 : Int) = (0 : Int) ∧ x_1 ≤ List.length x.1.2.2.1 ∧ pcF (fun (i : Nat) => tchk (tdAt x.1.2.2.1 i)) (dupT x.1.2.2.1) (0 : Nat) (List.length x.1.2.2.1) = pcF (fun (i : Nat) => tchk (tdAt x.1.2.2.1 i)) (dupT x.1.2.2.1) x_1 (List.length x.1.2.2.1 - x_1)) ∧ ∀ (x_1 : Nat), x_1 ≤ List.length x.1.2.2.1 ∧ pcF (fun (i : Nat) => tchk (tdAt x.1.2.2.1 i)) (dupT x.1.2.2.1) (0 : Nat) (List.length x.1.2.2.1) = pcF (fun (i : Nat) => tchk (tdAt x.1.2.2.1 i)) (dupT x.1.2.2.1) x_1 (List.length x.1.2.2.1 - x_1) → (decide ((↑x_1 : Int) < (x.1.2.2.1.length : Int)) = true → ((0 : Int) ≤ (↑x_1 : Int) ∧ (↑x_1 : Int) < (x.1.2.2.1.length : Int)) ∧ ∀ (r : Ro [Ty.it IntKind.i64]), r = ((), tchk (List.getD x.1.2.2.1 (↑x_1 : Int).toNat (dfl tTide)), ()) → ((r.2.1 != (0 : Int)) = true → ((r.2.1, (↑x_1 : Int), ()), ()) = (portR x.1, ())) ∧ ((r.2.1 != (0 : Int)) = false → ((0 : Int) ≤ (0 : Int) ∧ (0 : Int) ≤ (↑x_1 : Int) ∧ (↑x_1 : Int) ≤ (x.1.2.2.1.length : Int)) ∧ ((0 : Int) ≤ (↑x_1 : Int) ∧ (↑x_1 : Int) < (x.1.2.2.1.length : Int)) ∧ ∀ (r : Ro [Ty.bo]), r = ((), thereB (List.take ((↑x_1 : Int).toNat - Int.toNat (0 : Int)) (List.drop (Int.toNat (0 : Int)) x.1.2.2.1)) (List.getD x.1.2.2.1 (↑x_1 : Int).toNat (dfl tTide)), ()) → (r.2.1 = true → (((5 : Int), (↑x_1 : Int), ()), ()) = (portR x.1, ())) ∧ (r.2.1 = false → ((-9223372036854775808 : Int) ≤ (↑x_1 : Int) + (1 : Int) ∧ (↑x_1 : Int) + (1 : Int) ≤ (9223372036854775807 : Int)) ∧ ∃ (x' : Nat), (↑x' : Int) = (↑x_1 : Int) + (1 : Int) ∧ x.1.1 = x.1.1 ∧ x.1.2.1.1 = x.1.2.1.1 ∧ x.1.2.1.2.1 = x.1.2.1.2.1 ∧ x.1.2.1.2.2.1 = x.1.2.1.2.2.1 ∧ x.1.2.2.1 = x.1.2.2.1 ∧ (0 : Int) = (0 : Int) ∧ (0 : Int) = (0 : Int) ∧ (x' ≤ List.length x.1.2.2.1 ∧ pcF (fun (i : Nat) => tchk (tdAt x.1.2.2.1 i)) (dupT x.1.2.2.1) (0 : Nat) (List.length x.1.2.2.1) = pcF (fun (i : Nat) => tchk (tdAt x.1.2.2.1 i)) (dupT x.1.2.2.1) x' (List.length x.1.2.2.1 - x')) ∧ List.length x.1.2.2.1 - x' < List.length x.1.2.2.1 - x_1))) ∧ (decide ((↑x_1 : Int) < (x.1.2.2.1.length : Int)) = false → (((0 : Int), (0 : Int), ()), ()) = (portR x.1, ())))))
theorem w_n14Check (y : El sp_n14Check.q) (x : Els sp_n14Check.ps) : aW c_n14Check (iv_n14Check y x) Tryz.f60 sp_n14Check y x = F_n14Check y x := by kernel_rfl
theorem m_n14Check (y : El (.un)) (x : Els [tPort]) (h2 : wfE (.un) y) (h3 : wfEs [tPort] x) : F_n14Check y x := by
  unfold F_n14Check
  rintro _ rfl
  refine ⟨fun h => pR_of (pI_1 (ntt h)), fun h => ?_⟩
  have h := nff h
  rintro _ rfl
  refine ⟨fun k => pR_of (pI_2 h (neT k)), fun k => ?_⟩
  have k := neF k
  refine ⟨fun l => pR_of (pI_3 h k (by have := gtT l; omega)), fun l => ?_⟩
  have l := gtF l
  have e4 := pI_4 h k (by omega)
  refine ⟨⟨0, rfl, rfl, rfl, rfl, rfl, rfl, rfl, rfl, Nat.zero_le _, rfl⟩, fun i hi => ⟨fun m => ?_, fun m => ?_⟩⟩
  · obtain ⟨hi, h0⟩ := hi
    have m := ltT m
    have il : i < x.1.2.2.1.length := by omega
    obtain ⟨d, hd⟩ : ∃ d, x.1.2.2.1.length - i = d + 1 := ⟨x.1.2.2.1.length - i - 1, by omega⟩
    have hd' : x.1.2.2.1.length - (i + 1) = d := by omega
    rw [hd] at h0
    refine ⟨⟨by omega, m⟩, ?_⟩
    rintro _ rfl
    refine ⟨fun n => ?_, fun n => ⟨⟨by omega, by omega, by omega⟩, ⟨by omega, m⟩, ?_⟩⟩
    · refine pR_of (e4.trans (h0.trans (pcF_bad ?_)))
      exact neT n
    · have n : tchk (tdAt x.1.2.2.1 i) = 0 := neF n
      have ed : thereB (List.take ((i : Int).toNat - Int.toNat (0 : Int)) (List.drop (Int.toNat (0 : Int)) x.1.2.2.1)) (List.getD x.1.2.2.1 (i : Int).toNat (dfl tTide)) = dupT x.1.2.2.1 i := there_dup il
      rw [ed]
      rintro _ rfl
      refine ⟨fun o => pR_of (e4.trans (h0.trans (pcF_dup n o))), fun o => ⟨by omega, i + 1, rfl, rfl, rfl, rfl, rfl, rfl, rfl, rfl, ⟨il, ?_⟩, by omega⟩⟩
      rw [hd', h0]
      exact pcF_next n o
  · obtain ⟨hi, h0⟩ := hi
    have m := ltF m
    have ei : x.1.2.2.1.length - i = 0 := by omega
    rw [ei] at h0
    exact pR_of (e4.trans h0)
theorem fo_n14Check : FnOk Tryz.prog 60 sp_n14Check := fnOk_of (C := c_n14Check) iv_n14Check Tryz.func60 rfl (by kernel_rfl) tys_ok (prims_cons (spec_prim fo_nName) (prims_cons (spec_prim fo_nCheck) (prims_cons (spec_prim fo_nTCk) (prims_cons (spec_prim fo_n14there) prims_nil)))) mixed_ (Nat.le_refl _) rfl fun y x h1 h2 h3 h4 =>
  Eq.mpr (w_n14Check y x) (m_n14Check y x h2 h3)
noncomputable def sp_n15number : Spec := { q := .un, ps := [tTide, .it .i64], rs := [tG, .it .i64], fresh := false, pre := fun _ _ => none, post := fun _ x => pG (numE x.1 x.2.1) }
noncomputable def iv_n15number (y : El sp_n15number.q) (x : Els sp_n15number.ps) : Nat → Option Inv := fun _ => none
noncomputable abbrev c_n15number : Cfg := cfgS (Tryz.f57).ntmps false [(106, sp_n05Pow.prim), (107, sp_hMul.prim)]
def F_n15number (y : El sp_n15number.q) (x : Els sp_n15number.ps) : Prop :=
  ∀ (r : Ro [tG, Ty.it IntKind.i64]), r = ((), powR x.1.2.1 x.2.1) → ((r.2.2.1 != (0 : Int)) = true → (((false, [], [], ()), (false, [], [], ()), ()), r.2.2) = (pG (numE x.1 x.2.1)).2) ∧ ((r.2.2.1 != (0 : Int)) = false → ∀ (r_1 : Ro [tG, Ty.it IntKind.i64]), r_1 = pG (gmul (toGa x.1.2.2.1) (toGa r.2.1)) → r_1.2 = (pG (numE x.1 x.2.1)).2)
theorem w_n15number (y : El sp_n15number.q) (x : Els sp_n15number.ps) : aW c_n15number (iv_n15number y x) Tryz.f57 sp_n15number y x = F_n15number y x := by kernel_rfl
theorem m_n15number (y : El (.un)) (x : Els [tTide, .it .i64]) (h2 : wfE (.un) y) (h3 : wfEs [tTide, .it .i64] x) : F_n15number y x := by
  unfold F_n15number
  rintro _ rfl
  refine ⟨fun h => ?_, fun h => ?_⟩
  · unfold numE
    rw [if_pos (neT h)]
    rfl
  · rintro _ rfl
    unfold numE
    rw [if_neg (fun c => c (neF h))]
theorem fo_n15number : FnOk Tryz.prog 57 sp_n15number := fnOk_of (C := c_n15number) iv_n15number Tryz.func57 rfl (by kernel_rfl) tys_ok (prims_cons (spec_prim fo_n05Pow) (prims_cons (spec_prim fo_hMul) prims_nil)) mixed_ (Nat.le_refl _) rfl fun y x h1 h2 h3 h4 =>
  Eq.mpr (w_n15number y x) (m_n15number y x h2 h3)
theorem tk_1 {t : Int} (h : t < 0 ∨ 1024 < t) : tickE t = 2 := if_pos h
theorem tk_2 {t : Int} (h : ¬ (t < 0 ∨ 1024 < t)) : tickE t = 0 := if_neg h
theorem nb_1 {c : El tTide} {t : Int} (h : tchk c ≠ 0) : numberE c t = (Ga.zero, tchk c) := if_pos h
theorem nb_2 {c : El tTide} {t : Int} (h : tchk c = 0) (k : t < 0 ∨ 1024 < t) : numberE c t = (Ga.zero, 2) := by
  unfold numberE
  rw [if_neg (fun c => c h), tk_1 k]
  rfl
theorem nb_3 {c : El tTide} {t : Int} (h : tchk c = 0) (k : ¬ (t < 0 ∨ 1024 < t)) : numberE c t = numE c t := by
  unfold numberE
  rw [if_neg (fun c => c h), tk_2 k]
  rfl
noncomputable def sp_n15Number : Spec := { q := .un, ps := [tTide, .it .i64], rs := [tG, .it .i64], fresh := false, pre := fun _ _ => none, post := fun _ x => pG (numberE x.1 x.2.1) }
noncomputable def iv_n15Number (y : El sp_n15Number.q) (x : Els sp_n15Number.ps) : Nat → Option Inv := fun _ => none
noncomputable abbrev c_n15Number : Cfg := cfgS (Tryz.f11).ntmps false [(56, sp_nTCk.prim), (57, sp_n15number.prim)]
def F_n15Number (y : El sp_n15Number.q) (x : Els sp_n15Number.ps) : Prop :=
  (fun (i21 : Int) => ∀ (r : Ro [Ty.it IntKind.i64]), r = ((), tchk x.1, ()) → ((r.2.1 != (0 : Int)) = true → (((false, [], [], ()), (false, [], [], ()), ()), r.2) = (pG (numberE x.1 i21)).2) ∧ ((r.2.1 != (0 : Int)) = false → (decide (i21 < (0 : Int)) = true → (((false, [], [], ()), (false, [], [], ()), ()), (2 : Int), ()) = (pG (numberE x.1 i21)).2) ∧ (decide (i21 < (0 : Int)) = false → (decide (i21 > (1024 : Int)) = true → (((false, [], [], ()), (false, [], [], ()), ()), (2 : Int), ()) = (pG (numberE x.1 i21)).2) ∧ (decide (i21 > (1024 : Int)) = false → ∀ (r : Ro [tG, Ty.it IntKind.i64]), r = pG (numE x.1 i21) → r.2 = (pG (numberE x.1 i21)).2)))) x.2.1
theorem w_n15Number (y : El sp_n15Number.q) (x : Els sp_n15Number.ps) : aW c_n15Number (iv_n15Number y x) Tryz.f11 sp_n15Number y x = F_n15Number y x := by kernel_rfl
theorem m_n15Number (y : El (.un)) (x : Els [tTide, .it .i64]) (h2 : wfE (.un) y) (h3 : wfEs [tTide, .it .i64] x) : F_n15Number y x := by
  unfold F_n15Number
  dsimp only
  rintro _ rfl
  refine ⟨fun h => ?_, fun h => ⟨fun a => ?_, fun a => ⟨fun b => ?_, fun b => ?_⟩⟩⟩
  · rw [nb_1 (neT h)]
    rfl
  · rw [nb_2 (neF h) (.inl (ltT a))]
    rfl
  · rw [nb_2 (neF h) (.inr (gtT b))]
    rfl
  · rw [nb_3 (neF h) (by have := ltF a; have := gtF b; omega)]
    rintro _ rfl
    rfl
theorem fo_n15Number : FnOk Tryz.prog 11 sp_n15Number := fnOk_of (C := c_n15Number) iv_n15Number Tryz.func11 rfl (by kernel_rfl) tys_ok (prims_cons (spec_prim fo_nTCk) (prims_cons (spec_prim fo_n15number) prims_nil)) mixed_ (Nat.le_refl _) rfl fun y x h1 h2 h3 h4 =>
  Eq.mpr (w_n15Number y x) (m_n15Number y x h2 h3)
noncomputable def sp_n15height : Spec := { q := .un, ps := [tPort, .it .i64], rs := [tR, .it .i64], fresh := false, pre := fun _ _ => none, post := fun _ x => pR (endR (hgtS (toFr x.1.2.1, 0) x.1.2.2.1 x.2.1 x.1.2.2.1.length)) }
noncomputable def iv_n15height (y : El sp_n15height.q) (x : Els sp_n15height.ps) : Nat → Option Inv := fun k => if k = 0 then some { X := Nat, tm := fun i => [(1, .c (.sc (.int .i64 x.2.1))), (2, .c (.pv 1 0)), (4, .c (.pv 2 0)), (6, .c (.pv 3 0)), (7, .c (.sc (.int .i64 i)))], ob := fun i => [(1, .var (cel tPort x.1)), (2, .var (zer tR)), (3, .var (cel tR (ofFr (hgtS (toFr x.1.2.1, 0) x.1.2.2.1 x.2.1 i).1)))], n := 4, I := fun i => i ≤ x.1.2.2.1.length ∧ (hgtS (toFr x.1.2.1, 0) x.1.2.2.1 x.2.1 i).2 = 0, μ := fun i => x.1.2.2.1.length - i } else none
noncomputable abbrev c_n15height : Cfg := cfgS (Tryz.f61).ntmps false [(57, sp_n15number.prim), (98, (sp_nAdd.rd).prim)]
def F_n15height (y : El sp_n15height.q) (x : Els sp_n15height.ps) : Prop :=
  (∃ (x_1 : Nat), x.2.1 = x.2.1 ∧ (↑x_1 : Int) = (0 : Int) ∧ x.1.1 = x.1.1 ∧ x.1.2.1.1 = x.1.2.1.1 ∧ x.1.2.1.2.1 = x.1.2.1.2.1 ∧ x.1.2.1.2.2.1 = x.1.2.1.2.2.1 ∧ x.1.2.2.1 = x.1.2.2.1 ∧ (ofFr (hgtS (toFr x.1.2.1, (0 : Int)) x.1.2.2.1 x.2.1 x_1).1).1 = x.1.2.1.1 ∧ (ofFr (hgtS (toFr x.1.2.1, (0 : Int)) x.1.2.2.1 x.2.1 x_1).1).2.1 = x.1.2.1.2.1 ∧ (ofFr (hgtS (toFr x.1.2.1, (0 : Int)) x.1.2.2.1 x.2.1 x_1).1).2.2.1 = x.1.2.1.2.2.1 ∧ x_1 ≤ List.length x.1.2.2.1 ∧ (hgtS (toFr x.1.2.1, (0 : Int)) x.1.2.2.1 x.2.1 x_1).2 = (0 : Int)) ∧ ∀ (x_1 : Nat), x_1 ≤ List.length x.1.2.2.1 ∧ (hgtS (toFr x.1.2.1, (0 : Int)) x.1.2.2.1 x.2.1 x_1).2 = (0 : Int) → (decide ((↑x_1 : Int) < (x.1.2.2.1.length : Int)) = true → ((0 : Int) ≤ (↑x_1 : Int) ∧ (↑x_1 : Int) < (x.1.2.2.1.length : Int)) ∧ ∀ (r : Ro [tG, Ty.it IntKind.i64]), r = pG (numE (List.getD x.1.2.2.1 (↑x_1 : Int).toNat (dfl tTide)) x.2.1) → ((r.2.2.1 != (0 : Int)) = true → ((false, [], [], ()), r.2.2) = (pR (endR (hgtS (toFr x.1.2.1, (0 : Int)) x.1.2.2.1 x.2.1 (List.length x.1.2.2.1)))).2) ∧ ((r.2.2.1 != (0 : Int)) = false → ∀ (r_1 : Ro [tR, Ty.it IntKind.i64]), r_1 = pR (fadd (toFr (ofFr (hgtS (toFr x.1.2.1, (0 : Int)) x.1.2.2.1 x.2.1 x_1).1)) (toFr r.2.1.1)) → ((r_1.2.2.1 != (0 : Int)) = true → ((false, [], [], ()), r_1.2.2) = (pR (endR (hgtS (toFr x.1.2.1, (0 : Int)) x.1.2.2.1 x.2.1 (List.length x.1.2.2.1)))).2) ∧ ((r_1.2.2.1 != (0 : Int)) = false → ((-9223372036854775808 : Int) ≤ (↑x_1 : Int) + (1 : Int) ∧ (↑x_1 : Int) + (1 : Int) ≤ (9223372036854775807 : Int)) ∧ ∃ (x' : Nat), x.2.1 = x.2.1 ∧ (↑x' : Int) = (↑x_1 : Int) + (1 : Int) ∧ x.1.1 = x.1.1 ∧ x.1.2.1.1 = x.1.2.1.1 ∧ x.1.2.1.2.1 = x.1.2.1.2.1 ∧ x.1.2.1.2.2.1 = x.1.2.1.2.2.1 ∧ x.1.2.2.1 = x.1.2.2.1 ∧ (ofFr (hgtS (toFr x.1.2.1, (0 : Int)) x.1.2.2.1 x.2.1 x').1).1 = r_1.2.1.1 ∧ (ofFr (hgtS (toFr x.1.2.1, (0 : Int)) x.1.2.2.1 x.2.1 x').1).2.1 = r_1.2.1.2.1 ∧ (ofFr (hgtS (toFr x.1.2.1, (0 : Int)) x.1.2.2.1 x.2.1 x').1).2.2.1 = r_1.2.1.2.2.1 ∧ (x' ≤ List.length x.1.2.2.1 ∧ (hgtS (toFr x.1.2.1, (0 : Int)) x.1.2.2.1 x.2.1 x').2 = (0 : Int)) ∧ List.length x.1.2.2.1 - x' < List.length x.1.2.2.1 - x_1))) ∧ (decide ((↑x_1 : Int) < (x.1.2.2.1.length : Int)) = false → (ofFr (hgtS (toFr x.1.2.1, (0 : Int)) x.1.2.2.1 x.2.1 x_1).1, (0 : Int), ()) = (pR (endR (hgtS (toFr x.1.2.1, (0 : Int)) x.1.2.2.1 x.2.1 (List.length x.1.2.2.1)))).2)
theorem w_n15height (y : El sp_n15height.q) (x : Els sp_n15height.ps) : aW c_n15height (iv_n15height y x) Tryz.f61 sp_n15height y x = F_n15height y x := by kernel_rfl
theorem m_n15height (y : El (.un)) (x : Els [tPort, .it .i64]) (h2 : wfE (.un) y) (h3 : wfEs [tPort, .it .i64] x) : F_n15height y x := by
  unfold F_n15height
  refine ⟨⟨0, rfl, rfl, rfl, rfl, rfl, rfl, rfl, rfl, rfl, rfl, Nat.zero_le _, rfl⟩, fun i hi => ⟨fun l => ?_, fun l => ?_⟩⟩
  · obtain ⟨hi, h0⟩ := hi
    have hL : x.1.2.2.1.length ≤ 9223372036854775807 := h3.1.2.2.1.1
    have l := ltT l
    have il : i + 1 ≤ x.1.2.2.1.length := by omega
    refine ⟨⟨by omega, l⟩, ?_⟩
    rintro _ rfl
    refine ⟨fun k => ?_, fun k => ?_⟩
    · have e := hg_bad h0 (neT k)
      rw [hg_err (by rw [e]; exact neT k) il, e]
      rfl
    · rintro _ rfl
      have e := hg_add h0 (neF k)
      refine ⟨fun m => ?_, fun m => ?_⟩
      · have m : (fadd (hgtS (toFr x.1.2.1, 0) x.1.2.2.1 x.2.1 i).1 (numE (tdAt x.1.2.2.1 i) x.2.1).1.re).2 ≠ 0 := neT m
        rw [hg_err (by rw [e]; exact m) il, e]
        rfl
      · have m : (fadd (hgtS (toFr x.1.2.1, 0) x.1.2.2.1 x.2.1 i).1 (numE (tdAt x.1.2.2.1 i) x.2.1).1.re).2 = 0 := neF m
        refine ⟨by omega, i + 1, ?_⟩
        and_intros
        all_goals first | rfl | exact il | (rw [e]; exact m) | (rw [e] <;> rfl) | omega
  · obtain ⟨hi, h0⟩ := hi
    have l := ltF l
    have ei : i = x.1.2.2.1.length := by omega
    rw [← ei, endR_ok h0]
    rw [show (pR (hgtS (toFr x.1.2.1, 0) x.1.2.2.1 x.2.1 i)).2 = (ofFr (hgtS (toFr x.1.2.1, 0) x.1.2.2.1 x.2.1 i).1, (hgtS (toFr x.1.2.1, 0) x.1.2.2.1 x.2.1 i).2, ()) from rfl, h0]
theorem fo_n15height : FnOk Tryz.prog 61 sp_n15height := fnOk_of (C := c_n15height) iv_n15height Tryz.func61 rfl (by kernel_rfl) tys_ok (prims_cons (spec_prim fo_n15number) (prims_cons (spec_prim (FnOk.read fo_nAdd)) prims_nil)) mixed_ (Nat.le_refl _) rfl fun y x h1 h2 h3 h4 =>
  Eq.mpr (w_n15height y x) (m_n15height y x h2 h3)
theorem pI_mean {p : El tPort} (h : (portI p).1 = 0) : fchk (toFr p.2.1) = 0 := by
  refine Decidable.byContradiction fun c => ?_
  cases hn : nameS p.1 with
  | false => rw [pI_1 hn] at h; cases h
  | true => rw [pI_2 hn c] at h; exact c h
theorem one0_enc : one0 = enc 0 := enc_zero.symm
theorem wr_1 {p : El tPort} {t : Int} (h : (portI p).1 ≠ 0) : wrongE p t = (portI p).1 := if_pos h
theorem wr_2 {p : El tPort} {t : Int} (h : (portI p).1 = 0) : wrongE p t = tickE t := if_neg (fun c => c h)
section
variable {p : El tPort} {t : Int}
theorem at_1 (h : (portI p).1 ≠ 0) : AtE p t = (Fr.zero, (portI p).1) := by
  unfold AtE
  rw [wr_1 h, if_pos h]
theorem at_2 (h : (portI p).1 = 0) (k : t < 0 ∨ 1024 < t) : AtE p t = (Fr.zero, 2) := by
  unfold AtE
  rw [wr_2 h, tk_1 k]
  rfl
theorem at_3 (h : (portI p).1 = 0) (k : ¬ (t < 0 ∨ 1024 < t)) (w : (toFr p.2.1).Wf) : AtE p t = endR (hgtS (toFr p.2.1, 0) p.2.2.1 t p.2.2.1.length) := by
  unfold AtE
  rw [wr_2 h, tk_2 k]
  show atE p t = _
  unfold atE
  rw [one0_enc, fadd_nought w (pI_mean h)]
theorem su_1 (h : (portI p).1 ≠ 0) : SumE p t = (Ga.zero, (portI p).1) := by
  unfold SumE
  rw [wr_1 h, if_pos h]
theorem su_2 (h : (portI p).1 = 0) (k : t < 0 ∨ 1024 < t) : SumE p t = (Ga.zero, 2) := by
  unfold SumE
  rw [wr_2 h, tk_1 k]
  rfl
theorem su_3 (h : (portI p).1 = 0) (k : ¬ (t < 0 ∨ 1024 < t)) : SumE p t = sumS p.2.2.1 t p.2.2.1.length := by
  unfold SumE
  rw [wr_2 h, tk_2 k]
  rfl
end
noncomputable def sp_n15At : Spec := { q := .un, ps := [tPort, .it .i64], rs := [tR, .it .i64], fresh := false, pre := fun _ _ => none, post := fun _ x => pR (AtE x.1 x.2.1) }
noncomputable def iv_n15At (y : El sp_n15At.q) (x : Els sp_n15At.ps) : Nat → Option Inv := fun _ => none
noncomputable abbrev c_n15At : Cfg := cfgS (Tryz.f13).ntmps false [(60, sp_n14Check.prim), (61, sp_n15height.prim)]
def F_n15At (y : El sp_n15At.q) (x : Els sp_n15At.ps) : Prop :=
  (fun (i21 : Int) => ∀ (r : Ro [tFault]), r = ((), portR x.1, ()) → ((r.2.1.1 != (0 : Int)) = true → ((false, [], [], ()), r.2.1.1, ()) = (pR (AtE x.1 i21)).2) ∧ ((r.2.1.1 != (0 : Int)) = false → (decide (i21 < (0 : Int)) = true → ((false, [], [], ()), (2 : Int), ()) = (pR (AtE x.1 i21)).2) ∧ (decide (i21 < (0 : Int)) = false → (decide (i21 > (1024 : Int)) = true → ((false, [], [], ()), (2 : Int), ()) = (pR (AtE x.1 i21)).2) ∧ (decide (i21 > (1024 : Int)) = false → ∀ (r : Ro [tR, Ty.it IntKind.i64]), r = pR (endR (hgtS (toFr x.1.2.1, (0 : Int)) x.1.2.2.1 i21 (List.length x.1.2.2.1))) → r.2 = (pR (AtE x.1 i21)).2)))) x.2.1
theorem w_n15At (y : El sp_n15At.q) (x : Els sp_n15At.ps) : aW c_n15At (iv_n15At y x) Tryz.f13 sp_n15At y x = F_n15At y x := by kernel_rfl
theorem m_n15At (y : El (.un)) (x : Els [tPort, .it .i64]) (h2 : wfE (.un) y) (h3 : wfEs [tPort, .it .i64] x) : F_n15At y x := by
  unfold F_n15At
  dsimp only
  rintro _ rfl
  refine ⟨fun h => ?_, fun h => ?_⟩
  · rw [at_1 (neT h)]
    rfl
  · have h : (portI x.1).1 = 0 := neF h
    refine ⟨fun a => ?_, fun a => ⟨fun b => ?_, fun b => ?_⟩⟩
    · rw [at_2 h (.inl (ltT a))]
      rfl
    · rw [at_2 h (.inr (gtT b))]
      rfl
    · rw [at_3 h (by have := ltF a; have := gtF b; omega) (wf_fr h3.1.2.1)]
      rintro _ rfl
      rfl
theorem fo_n15At : FnOk Tryz.prog 13 sp_n15At := fnOk_of (C := c_n15At) iv_n15At Tryz.func13 rfl (by kernel_rfl) tys_ok (prims_cons (spec_prim fo_n14Check) (prims_cons (spec_prim fo_n15height) prims_nil)) mixed_ (Nat.le_refl _) rfl fun y x h1 h2 h3 h4 =>
  Eq.mpr (w_n15At y x) (m_n15At y x h2 h3)
noncomputable def sp_n15Sum : Spec := { q := .un, ps := [tPort, .it .i64], rs := [tG, .it .i64], fresh := false, pre := fun _ _ => none, post := fun _ x => pG (SumE x.1 x.2.1) }
noncomputable def iv_n15Sum (y : El sp_n15Sum.q) (x : Els sp_n15Sum.ps) : Nat → Option Inv := fun k => if k = 0 then some { X := Nat, tm := fun i => [(1, .c (.sc (.int .i64 x.2.1))), (2, .c (.pv 1 0)), (4, .c (.pv 2 0)), (7, .c (.pv 3 0)), (8, .c (.sc (.int .i64 i)))], ob := fun i => [(1, .var (cel tPort x.1)), (2, .var (zer tG)), (3, .var (cel tG (ofGa (sumS x.1.2.2.1 x.2.1 i).1)))], n := 4, I := fun i => i ≤ x.1.2.2.1.length ∧ (sumS x.1.2.2.1 x.2.1 i).2 = 0, μ := fun i => x.1.2.2.1.length - i } else none
noncomputable abbrev c_n15Sum : Cfg := cfgS (Tryz.f15).ntmps false [(60, sp_n14Check.prim), (64, sp_n15Zero.prim), (57, sp_n15number.prim), (65, sp_hAdd.prim)]
def F_n15Sum (y : El sp_n15Sum.q) (x : Els sp_n15Sum.ps) : Prop :=
  (fun (i21 : Int) => ∀ (r : Ro [tFault]), r = ((), portR x.1, ()) → ((r.2.1.1 != (0 : Int)) = true → (((false, [], [], ()), (false, [], [], ()), ()), r.2.1.1, ()) = (pG (SumE x.1 i21)).2) ∧ ((r.2.1.1 != (0 : Int)) = false → (decide (i21 < (0 : Int)) = true → (((false, [], [], ()), (false, [], [], ()), ()), (2 : Int), ()) = (pG (SumE x.1 i21)).2) ∧ (decide (i21 < (0 : Int)) = false → (decide (i21 > (1024 : Int)) = true → (((false, [], [], ()), (false, [], [], ()), ()), (2 : Int), ()) = (pG (SumE x.1 i21)).2) ∧ (decide (i21 > (1024 : Int)) = false → ∀ (r : Ro [tG]), r = ((), ofGa (gint (0 : Int) (0 : Int)), ()) → (∃ (x_1 : Nat), i21 = i21 ∧ (↑x_1 : Int) = (0 : Int) ∧ x.1.1 = x.1.1 ∧ x.1.2.1.1 = x.1.2.1.1 ∧ x.1.2.1.2.1 = x.1.2.1.2.1 ∧ x.1.2.1.2.2.1 = x.1.2.1.2.2.1 ∧ x.1.2.2.1 = x.1.2.2.1 ∧ (ofGa (sumS x.1.2.2.1 i21 x_1).1).1.1 = r.2.1.1.1 ∧ (ofGa (sumS x.1.2.2.1 i21 x_1).1).1.2.1 = r.2.1.1.2.1 ∧ (ofGa (sumS x.1.2.2.1 i21 x_1).1).1.2.2.1 = r.2.1.1.2.2.1 ∧ (ofGa (sumS x.1.2.2.1 i21 x_1).1).2.1.1 = r.2.1.2.1.1 ∧ (ofGa (sumS x.1.2.2.1 i21 x_1).1).2.1.2.1 = r.2.1.2.1.2.1 ∧ (ofGa (sumS x.1.2.2.1 i21 x_1).1).2.1.2.2.1 = r.2.1.2.1.2.2.1 ∧ x_1 ≤ List.length x.1.2.2.1 ∧ (sumS x.1.2.2.1 i21 x_1).2 = (0 : Int)) ∧ ∀ (x_1 : Nat), x_1 ≤ List.length x.1.2.2.1 ∧ (sumS x.1.2.2.1 i21 x_1).2 = (0 : Int) → (decide ((↑x_1 : Int) < (x.1.2.2.1.length : Int)) = true → ((0 : Int) ≤ (↑x_1 : Int) ∧ (↑x_1 : Int) < (x.1.2.2.1.length : Int)) ∧ ∀ (r : Ro [tG, Ty.it IntKind.i64]), r = pG (numE (List.getD x.1.2.2.1 (↑x_1 : Int).toNat (dfl tTide)) i21) → ((r.2.2.1 != (0 : Int)) = true → (((false, [], [], ()), (false, [], [], ()), ()), r.2.2) = (pG (SumE x.1 i21)).2) ∧ ((r.2.2.1 != (0 : Int)) = false → ∀ (r_1 : Ro [tG, Ty.it IntKind.i64]), r_1 = pG (gadd (toGa (ofGa (sumS x.1.2.2.1 i21 x_1).1)) (toGa r.2.1)) → ((r_1.2.2.1 != (0 : Int)) = true → (((false, [], [], ()), (false, [], [], ()), ()), r_1.2.2) = (pG (SumE x.1 i21)).2) ∧ ((r_1.2.2.1 != (0 : Int)) = false → ((-9223372036854775808 : Int) ≤ (↑x_1 : Int) + (1 : Int) ∧ (↑x_1 : Int) + (1 : Int) ≤ (9223372036854775807 : Int)) ∧ ∃ (x' : Nat), i21 = i21 ∧ (↑x' : Int) = (↑x_1 : Int) + (1 : Int) ∧ x.1.1 = x.1.1 ∧ x.1.2.1.1 = x.1.2.1.1 ∧ x.1.2.1.2.1 = x.1.2.1.2.1 ∧ x.1.2.1.2.2.1 = x.1.2.1.2.2.1 ∧ x.1.2.2.1 = x.1.2.2.1 ∧ (ofGa (sumS x.1.2.2.1 i21 x').1).1.1 = r_1.2.1.1.1 ∧ (ofGa (sumS x.1.2.2.1 i21 x').1).1.2.1 = r_1.2.1.1.2.1 ∧ (ofGa (sumS x.1.2.2.1 i21 x').1).1.2.2.1 = r_1.2.1.1.2.2.1 ∧ (ofGa (sumS x.1.2.2.1 i21 x').1).2.1.1 = r_1.2.1.2.1.1 ∧ (ofGa (sumS x.1.2.2.1 i21 x').1).2.1.2.1 = r_1.2.1.2.1.2.1 ∧ (ofGa (sumS x.1.2.2.1 i21 x').1).2.1.2.2.1 = r_1.2.1.2.1.2.2.1 ∧ (x' ≤ List.length x.1.2.2.1 ∧ (sumS x.1.2.2.1 i21 x').2 = (0 : Int)) ∧ List.length x.1.2.2.1 - x' < List.length x.1.2.2.1 - x_1))) ∧ (decide ((↑x_1 : Int) < (x.1.2.2.1.length : Int)) = false → (ofGa (sumS x.1.2.2.1 i21 x_1).1, (0 : Int), ()) = (pG (SumE x.1 i21)).2))))) x.2.1
theorem w_n15Sum (y : El sp_n15Sum.q) (x : Els sp_n15Sum.ps) : aW c_n15Sum (iv_n15Sum y x) Tryz.f15 sp_n15Sum y x = F_n15Sum y x := by kernel_rfl
theorem m_n15Sum (y : El (.un)) (x : Els [tPort, .it .i64]) (h2 : wfE (.un) y) (h3 : wfEs [tPort, .it .i64] x) : F_n15Sum y x := by
  unfold F_n15Sum
  dsimp only
  rintro _ rfl
  refine ⟨fun h => ?_, fun h => ?_⟩
  · rw [su_1 (neT h)]
    rfl
  · have h : (portI x.1).1 = 0 := neF h
    refine ⟨fun a => ?_, fun a => ⟨fun b => ?_, fun b => ?_⟩⟩
    · rw [su_2 h (.inl (ltT a))]
      rfl
    · rw [su_2 h (.inr (gtT b))]
      rfl
    · rw [su_3 h (by have := ltF a; have := gtF b; omega)]
      have hL : x.1.2.2.1.length ≤ 9223372036854775807 := h3.1.2.2.1.1
      rintro _ rfl
      refine ⟨⟨0, rfl, rfl, rfl, rfl, rfl, rfl, rfl, rfl, rfl, rfl, rfl, rfl, rfl, Nat.zero_le _, rfl⟩, fun i hi => ⟨fun l => ?_, fun l => ?_⟩⟩
      · obtain ⟨hi, h0⟩ := hi
        have l := ltT l
        have il : i + 1 ≤ x.1.2.2.1.length := by omega
        refine ⟨⟨by omega, l⟩, ?_⟩
        rintro _ rfl
        refine ⟨fun k => ?_, fun k => ?_⟩
        · have e := su_bad h0 (neT k)
          rw [su_err (by rw [e]; exact neT k) il, e]
          rfl
        · rintro _ rfl
          have e := su_add h0 (neF k)
          refine ⟨fun m => ?_, fun m => ?_⟩
          · have m : (gadd (sumS x.1.2.2.1 x.2.1 i).1 (numE (tdAt x.1.2.2.1 i) x.2.1).1).2 ≠ 0 := neT m
            rw [su_err (by rw [e]; exact m) il, e, gadd_bad m]
            rfl
          · have m : (gadd (sumS x.1.2.2.1 x.2.1 i).1 (numE (tdAt x.1.2.2.1 i) x.2.1).1).2 = 0 := neF m
            refine ⟨by omega, i + 1, ?_⟩
            and_intros
            all_goals first | rfl | exact il | (rw [e]; exact m) | (rw [e] <;> rfl) | omega
      · obtain ⟨hi, h0⟩ := hi
        have l := ltF l
        have ei : i = x.1.2.2.1.length := by omega
        rw [← ei]
        rw [show (pG (sumS x.1.2.2.1 x.2.1 i)).2 = (ofGa (sumS x.1.2.2.1 x.2.1 i).1, (sumS x.1.2.2.1 x.2.1 i).2, ()) from rfl, h0]
theorem fo_n15Sum : FnOk Tryz.prog 15 sp_n15Sum := fnOk_of (C := c_n15Sum) iv_n15Sum Tryz.func15 rfl (by kernel_rfl) tys_ok (prims_cons (spec_prim fo_n14Check) (prims_cons (spec_prim fo_n15Zero) (prims_cons (spec_prim fo_n15number) (prims_cons (spec_prim fo_hAdd) prims_nil)))) mixed_ (Nat.le_refl _) rfl fun y x h1 h2 h3 h4 =>
  Eq.mpr (w_n15Sum y x) (m_n15Sum y x h2 h3)
end Go.Proofs.YtakaehdolpmelaaGreat
