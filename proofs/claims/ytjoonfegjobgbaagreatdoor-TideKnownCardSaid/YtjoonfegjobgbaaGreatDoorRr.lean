/- Texts of this claim, joined: B9 A26 Y2 U3 Y4 B10 Y5 Y7 U15 B12 A27 A30 A31 A32 A33 A29 B19 R14 G21 B26 R2 R3 R15 E1 B11 B13 B14. -/
import Derived.Deep.AppendLies
import Derived.Deep.RegionHeldLaw
import Derived.Test.YtjoonfegjobgbaaGreatDoorRq
set_option linter.unusedVariables false
set_option linter.unusedSimpArgs false
set_option maxRecDepth 100000
namespace Go.Proofs.YtjoonfegjobgbaaGreatDoor
open Go Go.RowKit
noncomputable def sp_kSameWords : Spec := { q := .un, ps := [tW32, tW32], rs := [.bo], fresh := true, pre := fun _ _ => none, post := fun _ x => ((), (decide (x.1 = x.2.1), ())) }
noncomputable def iv_kSameWords (y : El sp_kSameWords.q) (x : Els sp_kSameWords.ps) : Nat → Option Inv := fun k => if k = 0 then some { X := Nat, tm := fun i => [(0, .c (.sl (.it .u32) x.1)), (1, .c (.sl (.it .u32) x.2.1)), (5, .c (.sc (.int .i64 i)))], ob := fun _ => [], n := 1, I := fun i => i ≤ x.1.length ∧ x.1.length = x.2.1.length ∧ x.1.take i = x.2.1.take i, μ := fun i => x.1.length - i } else none
noncomputable abbrev c_kSameWords : Cfg := cfgS (Tryz.f131).ntmps false []
theorem w_kSameWords (y : El sp_kSameWords.q) (x : Els sp_kSameWords.ps) : aW c_kSameWords (iv_kSameWords y x) Tryz.f131 sp_kSameWords y x =
  ((((x.1.length : Int) != (x.2.1.length : Int)) = true → (false, ()) = (decide (x.1 = x.2.1), ())) ∧ (((x.1.length : Int) != (x.2.1.length : Int)) = false → (∃ (x_1 : Nat), x.1 = x.1 ∧ x.2.1 = x.2.1 ∧ (↑x_1 : Int) = (0 : Int) ∧ x_1 ≤ List.length x.1 ∧ List.length x.1 = List.length x.2.1 ∧ List.take x_1 x.1 = List.take x_1 x.2.1) ∧ ∀ (x_1 : Nat), x_1 ≤ List.length x.1 ∧ List.length x.1 = List.length x.2.1 ∧ List.take x_1 x.1 = List.take x_1 x.2.1 → (decide ((↑x_1 : Int) < (x.1.length : Int)) = true → ((0 : Int) ≤ (↑x_1 : Int) ∧ (↑x_1 : Int) < (x.1.length : Int)) ∧ ((0 : Int) ≤ (↑x_1 : Int) ∧ (↑x_1 : Int) < (x.2.1.length : Int)) ∧ ((List.getD x.1 (↑x_1 : Int).toNat (dfl (Ty.it IntKind.u32)) != List.getD x.2.1 (↑x_1 : Int).toNat (dfl (Ty.it IntKind.u32))) = true → (false, ()) = (decide (x.1 = x.2.1), ())) ∧ ((List.getD x.1 (↑x_1 : Int).toNat (dfl (Ty.it IntKind.u32)) != List.getD x.2.1 (↑x_1 : Int).toNat (dfl (Ty.it IntKind.u32))) = false → ((-9223372036854775808 : Int) ≤ (↑x_1 : Int) + (1 : Int) ∧ (↑x_1 : Int) + (1 : Int) ≤ (9223372036854775807 : Int)) ∧ ∃ (x' : Nat), x.1 = x.1 ∧ x.2.1 = x.2.1 ∧ (↑x' : Int) = (↑x_1 : Int) + (1 : Int) ∧ (x' ≤ List.length x.1 ∧ List.length x.1 = List.length x.2.1 ∧ List.take x' x.1 = List.take x' x.2.1) ∧ List.length x.1 - x' < List.length x.1 - x_1)) ∧ (decide ((↑x_1 : Int) < (x.1.length : Int)) = false → (true, ()) = (decide (x.1 = x.2.1), ())))) := by kernel_rfl
theorem m_kSameWords (y : El (.un)) (x : Els [tW32, tW32]) (h2 : wfE (.un) y) (h3 : wfEs [tW32, tW32] x) :
  ((((x.1.length : Int) != (x.2.1.length : Int)) = true → (false, ()) = (decide (x.1 = x.2.1), ())) ∧ (((x.1.length : Int) != (x.2.1.length : Int)) = false → (∃ (x_1 : Nat), x.1 = x.1 ∧ x.2.1 = x.2.1 ∧ (↑x_1 : Int) = (0 : Int) ∧ x_1 ≤ List.length x.1 ∧ List.length x.1 = List.length x.2.1 ∧ List.take x_1 x.1 = List.take x_1 x.2.1) ∧ ∀ (x_1 : Nat), x_1 ≤ List.length x.1 ∧ List.length x.1 = List.length x.2.1 ∧ List.take x_1 x.1 = List.take x_1 x.2.1 → (decide ((↑x_1 : Int) < (x.1.length : Int)) = true → ((0 : Int) ≤ (↑x_1 : Int) ∧ (↑x_1 : Int) < (x.1.length : Int)) ∧ ((0 : Int) ≤ (↑x_1 : Int) ∧ (↑x_1 : Int) < (x.2.1.length : Int)) ∧ ((List.getD x.1 (↑x_1 : Int).toNat (dfl (Ty.it IntKind.u32)) != List.getD x.2.1 (↑x_1 : Int).toNat (dfl (Ty.it IntKind.u32))) = true → (false, ()) = (decide (x.1 = x.2.1), ())) ∧ ((List.getD x.1 (↑x_1 : Int).toNat (dfl (Ty.it IntKind.u32)) != List.getD x.2.1 (↑x_1 : Int).toNat (dfl (Ty.it IntKind.u32))) = false → ((-9223372036854775808 : Int) ≤ (↑x_1 : Int) + (1 : Int) ∧ (↑x_1 : Int) + (1 : Int) ≤ (9223372036854775807 : Int)) ∧ ∃ (x' : Nat), x.1 = x.1 ∧ x.2.1 = x.2.1 ∧ (↑x' : Int) = (↑x_1 : Int) + (1 : Int) ∧ (x' ≤ List.length x.1 ∧ List.length x.1 = List.length x.2.1 ∧ List.take x' x.1 = List.take x' x.2.1) ∧ List.length x.1 - x' < List.length x.1 - x_1)) ∧ (decide ((↑x_1 : Int) < (x.1.length : Int)) = false → (true, ()) = (decide (x.1 = x.2.1), ())))) := by
  have hL : x.1.length ≤ 9223372036854775807 := h3.1.1
  refine ⟨fun h => ?_, fun h => ⟨⟨0, rfl, rfl, rfl, Nat.zero_le _, by simpa [Int.ofNat_inj] using h, rfl⟩, fun i hi => ⟨fun hl => ?_, fun hl => ?_⟩⟩⟩
  · have : x.1 ≠ x.2.1 := fun e => by rw [e] at h; simp at h
    rw [decide_eq_false this]
  · obtain ⟨h0, h1, h2⟩ := hi
    have hl := of_decide_eq_true hl
    have a1 : i < x.1.length := by omega
    have a2 : i < x.2.1.length := by omega
    have g1 : x.1.getD ((i : Int)).toNat (dfl (Ty.it IntKind.u32)) = x.1[i] := by
      rw [Int.toNat_natCast, List.getD_eq_getElem?_getD, List.getElem?_eq_getElem a1]; rfl
    have g2 : x.2.1.getD ((i : Int)).toNat (dfl (Ty.it IntKind.u32)) = x.2.1[i] := by
      rw [Int.toNat_natCast, List.getD_eq_getElem?_getD, List.getElem?_eq_getElem a2]; rfl
    rw [g1, g2]
    refine ⟨⟨by omega, hl⟩, ⟨by omega, by omega⟩, fun k => ?_, fun k => ⟨by omega, i + 1, rfl, rfl, rfl, ⟨a1, h1, ?_⟩, by omega⟩⟩
    · have k := bne_iff_ne.1 k
      have : x.1 ≠ x.2.1 := fun e => k (by congr 1)
      rw [decide_eq_false this]
    · have k : x.1[i] = x.2.1[i] := by simpa using k
      rw [List.take_add_one, List.take_add_one, h2, List.getElem?_eq_getElem a1, List.getElem?_eq_getElem a2, k]
  · obtain ⟨h0, h1, h2⟩ := hi
    have hl := of_decide_eq_false hl
    rw [List.take_of_length_le (by omega), List.take_of_length_le (by omega)] at h2
    rw [decide_eq_true h2]
theorem fo_kSameWords : FnOk Tryz.prog 131 sp_kSameWords := fnOk_of (C := c_kSameWords) iv_kSameWords Tryz.func131 rfl (by kernel_rfl) tys_ok prims_nil mixed_ (Nat.le_refl _) rfl fun y x h1 h2 h3 h4 =>
  Eq.mpr (w_kSameWords y x) (m_kSameWords y x h2 h3)
noncomputable def sp_kSameRatio : Spec := { q := .un, ps := [tR, tR], rs := [.bo], fresh := true, pre := fun _ _ => none, post := fun _ x => ((), (decide (toFr x.1 = toFr x.2.1), ())) }
noncomputable def iv_kSameRatio (y : El sp_kSameRatio.q) (x : Els sp_kSameRatio.ps) : Nat → Option Inv := fun _ => none
noncomputable abbrev c_kSameRatio : Cfg := cfgS (Tryz.f73).ntmps false [(131, sp_kSameWords.prim)]
theorem w_kSameRatio (y : El sp_kSameRatio.q) (x : Els sp_kSameRatio.ps) : aW c_kSameRatio (iv_kSameRatio y x) Tryz.f73 sp_kSameRatio y x =
  (((x.1.1 == x.2.1.1) = true → ∀ (r : Ro [Ty.bo]), r = ((), decide (x.1.2.1 = x.2.1.2.1), ()) → (r.2.1 = true → ∀ (r : Ro [Ty.bo]), r = ((), decide (x.1.2.2.1 = x.2.1.2.2.1), ()) → r.2 = (decide (toFr x.1 = toFr x.2.1), ())) ∧ (r.2.1 = false → (false, ()) = (decide (toFr x.1 = toFr x.2.1), ()))) ∧ ((x.1.1 == x.2.1.1) = false → (false, ()) = (decide (toFr x.1 = toFr x.2.1), ()))) := by kernel_rfl
theorem m_kSameRatio (y : El (.un)) (x : Els [tR, tR]) (h2 : wfE (.un) y) (h3 : wfEs [tR, tR] x) :
  (((x.1.1 == x.2.1.1) = true → ∀ (r : Ro [Ty.bo]), r = ((), decide (x.1.2.1 = x.2.1.2.1), ()) → (r.2.1 = true → ∀ (r : Ro [Ty.bo]), r = ((), decide (x.1.2.2.1 = x.2.1.2.2.1), ()) → r.2 = (decide (toFr x.1 = toFr x.2.1), ())) ∧ (r.2.1 = false → (false, ()) = (decide (toFr x.1 = toFr x.2.1), ()))) ∧ ((x.1.1 == x.2.1.1) = false → (false, ()) = (decide (toFr x.1 = toFr x.2.1), ()))) := by
  obtain ⟨⟨s, a, b, _⟩, ⟨t, c, d, _⟩, _⟩ := x
  refine ⟨fun h => ?_, fun h => ?_⟩
  · rintro _ rfl
    refine ⟨fun k => ?_, fun k => ?_⟩
    · rintro _ rfl
      have hs : s = t := by simpa using h
      have hk : a = c := by simpa using k
      subst hs
      subst hk
      simp [toFr]
    · have k : a ≠ c := by simpa using k
      simp [toFr, k]
  · have h : s ≠ t := by simpa using h
    simp [toFr, h]
theorem fo_kSameRatio : FnOk Tryz.prog 73 sp_kSameRatio := fnOk_of (C := c_kSameRatio) iv_kSameRatio Tryz.func73 rfl (by kernel_rfl) tys_ok (prims_cons (spec_prim fo_kSameWords) prims_nil) mixed_ (Nat.le_refl _) rfl fun y x h1 h2 h3 h4 =>
  Eq.mpr (w_kSameRatio y x) (m_kSameRatio y x h2 h3)
noncomputable def sp_kSameGauss : Spec := { q := .un, ps := [tG, tG], rs := [.bo], fresh := true, pre := fun _ _ => none, post := fun _ x => ((), (decide (toGa x.1 = toGa x.2.1), ())) }
noncomputable def iv_kSameGauss (y : El sp_kSameGauss.q) (x : Els sp_kSameGauss.ps) : Nat → Option Inv := fun _ => none
noncomputable abbrev c_kSameGauss : Cfg := cfgS (Tryz.f48).ntmps false [(73, sp_kSameRatio.prim)]
theorem w_kSameGauss (y : El sp_kSameGauss.q) (x : Els sp_kSameGauss.ps) : aW c_kSameGauss (iv_kSameGauss y x) Tryz.f48 sp_kSameGauss y x =
  (∀ (r : Ro [Ty.bo]), r = ((), decide (toFr x.1.1 = toFr x.2.1.1), ()) → (r.2.1 = true → ∀ (r : Ro [Ty.bo]), r = ((), decide (toFr x.1.2.1 = toFr x.2.1.2.1), ()) → r.2 = (decide (toGa x.1 = toGa x.2.1), ())) ∧ (r.2.1 = false → (false, ()) = (decide (toGa x.1 = toGa x.2.1), ()))) := by kernel_rfl
theorem m_kSameGauss (y : El (.un)) (x : Els [tG, tG]) (h2 : wfE (.un) y) (h3 : wfEs [tG, tG] x) :
  (∀ (r : Ro [Ty.bo]), r = ((), decide (toFr x.1.1 = toFr x.2.1.1), ()) → (r.2.1 = true → ∀ (r : Ro [Ty.bo]), r = ((), decide (toFr x.1.2.1 = toFr x.2.1.2.1), ()) → r.2 = (decide (toGa x.1 = toGa x.2.1), ())) ∧ (r.2.1 = false → (false, ()) = (decide (toGa x.1 = toGa x.2.1), ()))) := by
  rintro _ rfl
  refine ⟨fun k => ?_, fun k => ?_⟩
  · rintro _ rfl
    simp_all
  · simp_all
theorem fo_kSameGauss : FnOk Tryz.prog 48 sp_kSameGauss := fnOk_of (C := c_kSameGauss) iv_kSameGauss Tryz.func48 rfl (by kernel_rfl) tys_ok (prims_cons (spec_prim fo_kSameRatio) prims_nil) mixed_ (Nat.le_refl _) rfl fun y x h1 h2 h3 h4 =>
  Eq.mpr (w_kSameGauss y x) (m_kSameGauss y x h2 h3)
def smallW (l : List Int) (m : Int) : Bool := decide ((l.length : Int) ≤ m) || decide (2048 < l.length ∧ l.length < 2057)
noncomputable def sp_lsmall : Spec := { q := .un, ps := [tW32, .it .i64], rs := [.bo], fresh := true, pre := fun _ _ => none, post := fun _ x => ((), (smallW x.1 x.2.1, ())) }
noncomputable def iv_lsmall (y : El sp_lsmall.q) (x : Els sp_lsmall.ps) : Nat → Option Inv := fun _ => none
noncomputable abbrev c_lsmall : Cfg := cfgS (Tryz.f148).ntmps false []
theorem w_lsmall (y : El sp_lsmall.q) (x : Els sp_lsmall.ps) : aW c_lsmall (iv_lsmall y x) Tryz.f148 sp_lsmall y x =
  ((decide ((x.1.length : Int) ≤ x.2.1) = true → (true, ()) = (smallW x.1 x.2.1, ())) ∧ (decide ((x.1.length : Int) ≤ x.2.1) = false → (decide ((x.1.length : Int) > (2048 : Int)) = true → (decide ((x.1.length : Int) < (2057 : Int)), ()) = (smallW x.1 x.2.1, ())) ∧ (decide ((x.1.length : Int) > (2048 : Int)) = false → (false, ()) = (smallW x.1 x.2.1, ())))) := by kernel_rfl
theorem m_lsmall (y : El (.un)) (x : Els [tW32, .it .i64]) (h2 : wfE (.un) y) (h3 : wfEs [tW32, .it .i64] x) :
  ((decide ((x.1.length : Int) ≤ x.2.1) = true → (true, ()) = (smallW x.1 x.2.1, ())) ∧ (decide ((x.1.length : Int) ≤ x.2.1) = false → (decide ((x.1.length : Int) > (2048 : Int)) = true → (decide ((x.1.length : Int) < (2057 : Int)), ()) = (smallW x.1 x.2.1, ())) ∧ (decide ((x.1.length : Int) > (2048 : Int)) = false → (false, ()) = (smallW x.1 x.2.1, ())))) := by
  unfold smallW
  refine ⟨fun h => ?_, fun h => ⟨fun k => ?_, fun k => ?_⟩⟩
  · rw [h]; rfl
  · rw [h]
    have k := of_decide_eq_true k
    by_cases m : x.1.length < 2057
    · rw [decide_eq_true (by omega), decide_eq_true (by omega)]; rfl
    · rw [decide_eq_false (by omega), decide_eq_false (by omega)]; rfl
  · rw [h]
    have k := of_decide_eq_false k
    rw [decide_eq_false (by omega)]; rfl
theorem fo_lsmall : FnOk Tryz.prog 148 sp_lsmall := fnOk_of (C := c_lsmall) iv_lsmall Tryz.func148 rfl (by kernel_rfl) tys_ok prims_nil mixed_ (Nat.le_refl _) rfl fun y x h1 h2 h3 h4 =>
  Eq.mpr (w_lsmall y x) (m_lsmall y x h2 h3)
noncomputable def sp_lSmall : Spec := { q := .un, ps := [tR, .it .i64], rs := [.bo], fresh := true, pre := fun _ _ => none, post := fun _ x => ((), (smallW x.1.2.1 x.2.1 && smallW x.1.2.2.1 x.2.1, ())) }
noncomputable def iv_lSmall (y : El sp_lSmall.q) (x : Els sp_lSmall.ps) : Nat → Option Inv := fun _ => none
noncomputable abbrev c_lSmall : Cfg := cfgS (Tryz.f103).ntmps false [(148, sp_lsmall.prim)]
theorem w_lSmall (y : El sp_lSmall.q) (x : Els sp_lSmall.ps) : aW c_lSmall (iv_lSmall y x) Tryz.f103 sp_lSmall y x =
  (∀ (r : Ro [Ty.bo]), r = ((), smallW x.1.2.1 x.2.1, ()) → (r.2.1 = true → ∀ (r : Ro [Ty.bo]), r = ((), smallW x.1.2.2.1 x.2.1, ()) → r.2 = (smallW x.1.2.1 x.2.1 && smallW x.1.2.2.1 x.2.1, ())) ∧ (r.2.1 = false → (false, ()) = (smallW x.1.2.1 x.2.1 && smallW x.1.2.2.1 x.2.1, ()))) := by kernel_rfl
theorem m_lSmall (y : El (.un)) (x : Els [tR, .it .i64]) (h2 : wfE (.un) y) (h3 : wfEs [tR, .it .i64] x) :
  (∀ (r : Ro [Ty.bo]), r = ((), smallW x.1.2.1 x.2.1, ()) → (r.2.1 = true → ∀ (r : Ro [Ty.bo]), r = ((), smallW x.1.2.2.1 x.2.1, ()) → r.2 = (smallW x.1.2.1 x.2.1 && smallW x.1.2.2.1 x.2.1, ())) ∧ (r.2.1 = false → (false, ()) = (smallW x.1.2.1 x.2.1 && smallW x.1.2.2.1 x.2.1, ()))) := by
  rintro _ rfl
  refine ⟨fun k => ?_, fun k => ?_⟩
  · rintro _ rfl
    simp_all
  · simp_all
theorem fo_lSmall : FnOk Tryz.prog 103 sp_lSmall := fnOk_of (C := c_lSmall) iv_lSmall Tryz.func103 rfl (by kernel_rfl) tys_ok (prims_cons (spec_prim fo_lsmall) prims_nil) mixed_ (Nat.le_refl _) rfl fun y x h1 h2 h3 h4 =>
  Eq.mpr (w_lSmall y x) (m_lSmall y x h2 h3)
def smallF (f : Fr) (m : Int) : Bool := smallW f.num m && smallW f.den m
section
variable {gp : Option Nat} {Z0 : Nat → Prop} {w0 : Base} {w w' : World} {D : Nat → Prop} {c : Cf} {T : Nat → Option AV} {O : Store} {a : Act} {N : Nat}
end
section
variable {wb w0 w w' : World} {row : Option Nat} {V : List (Nat × List Value)} {R : List (Adr × Fr)}
end
def pick {α : Type} (R : List α) : List Nat → List α
  | [] => []
  | i :: I => match R[i]? with
    | some x => x :: pick R I
    | none => pick R I
section
variable {wb w0 w w' : World} {row : Option Nat} {V : List (Nat × List Value)} {R : List (Adr × Fr)}
end
section
variable {wb w0 w w' : World} {row : Option Nat} {V : List (Nat × List Value)} {R : List (Adr × Fr)}
end
section
variable {gp : Option Nat} {Z0 : Nat → Prop} {w0 : Base} {w w' : World} {D : Nat → Prop} {c : Cf} {T : Nat → Option AV} {O : Store} {a : Act} {N : Nat}
end
def cut (w : World) (n : Nat) : World := { w with heap := w.heap.extract 0 n }
theorem own_rq {Z : Nat → Prop} {w : World} {base : Nat} {xs : List Int} {v : Value} {bs : List Nat} (h : RQ true Z w base tW32 xs [v] bs) : ∃ A c, v = .slice A xs.length c ∧ bs = blkA A ∧ Own w base A c xs ∧ Wf xs := by
  unfold RQ at h
  rw [if_pos rfl] at h
  rcases h with ⟨rfl, h1, rfl⟩ | h
  · cases h1
    exact ⟨none, 0, rfl, rfl, Own.nil _ _, fun x hx => by cases hx⟩
  · obtain ⟨g, cp, cells, h1, rfl, h3, h4, h5, h6, h7, h8, _⟩ := ty_of_rowQ (Z := Z) (m := 0) rfl h
    cases h1
    have hl : xs.length ≤ cp := by simpa [mks] using h6
    have h5 : cells.size = cp := by rw [h5]; exact Nat.mul_one cp
    have el : ∀ (j : Nat) (hj : j < xs.length), (0 ≤ xs[j] ∧ xs[j] ≤ 4294967295) ∧ cells[j]? = some (.int .u32 xs[j]) := fun j hj => by
      obtain ⟨us, k1, k2⟩ := h8 j hj
      rw [RT] at k1
      obtain ⟨rfl, k3⟩ := k1
      refine ⟨k3, ?_⟩
      have := k2 0 _ rfl
      rw [cell_of h4, show 0 + (j * (Ty.it IntKind.u32).size + 0) = j by show 0 + (j * 1 + 0) = j; omega] at this
      exact this
    refine ⟨some ⟨g, 0, none⟩, cp, rfl, rfl, Own.mk h3 h4 hl h7 h5 ?_, fun x hx => ?_⟩
    · apply List.ext_getElem?
      intro j
      unfold nums
      rw [List.getElem?_map]
      by_cases hj : j < xs.length
      · rw [List.getElem?_take, if_pos hj, Array.getElem?_toList, (el j hj).2, List.getElem?_eq_getElem hj]; rfl
      · rw [List.getElem?_eq_none (by rw [List.length_take]; omega), List.getElem?_eq_none (by omega)]; rfl
    · obtain ⟨j, hj, rfl⟩ := List.getElem_of_mem hx
      have := (el j hj).1
      exact ⟨this.1, Int.lt_of_le_of_lt this.2 (by decide)⟩
def p_sure (p : Prim) : Prim := fun az O n => match p az O n with
  | some (c, G) => match G.ef with
    | ⟨.c (.sc (.bool b)), ob, k⟩ => some (some (oc c (b = true)), .e ⟨.c .tt, ob, k⟩)
    | _ => none
  | none => none
theorem Sim.tt {gp : Option Nat} {Z0 : Nat → Prop} {w0 : Base} {w : World} {N : Nat} {d : Option Nat} {D : Nat → Prop} {c : Cf} {T : Nat → Option AV} {O : Store} {tm : Array Value} (h : Sim gp Z0 w0 N D c (upT T d (.c (.sc (.bool true)))) O tm w) : Sim gp Z0 w0 N D c (upT T d (.c .tt)) O tm w := by
  cases d with
  | none => exact h
  | some d =>
    exact { h with
      tmp := fun t v hv => by
        have hv : (bif Nat.beq d t then some (.c .tt) else T t) = some v := hv
        cases e : Nat.beq d t with
        | true =>
          rw [e] at hv
          cases hv
          obtain ⟨u, h1, h2⟩ := h.tmp t (.c (.sc (.bool true))) (by show (bif Nat.beq d t then _ else _) = _; rw [e]; rfl)
          exact ⟨u, h1, h2.1⟩
        | false =>
          rw [e] at hv
          exact h.tmp t v (by show (bif Nat.beq d t then _ else _) = _; rw [e]; exact hv) }
theorem pr_sure {P : Program} {f : Nat} {p : Prim} (hp : PrimOk P f p) : PrimOk P f (p_sure p) := by
  refine ⟨hp.1, fun gp Z0 w0 N D c T O O' a w xs vs n cd G hS hO hl hv hG hD hc => ?_⟩
  unfold p_sure at hG
  cases h1 : p xs O' n with
  | none => rw [h1] at hG; cases hG
  | some q =>
    obtain ⟨c1, G1⟩ := q
    rw [h1] at hG
    dsimp only at hG
    split at hG
    · rename_i b ob k hef
      cases hG
      have hc : oc c1 (b = true) := hc
      have hb : b = true ∧ holds c1 := by
        cases c1 with
        | none => exact ⟨hc, trivial⟩
        | some X => exact ⟨hc.2, hc.1⟩
      obtain ⟨rfl, hc1⟩ := hb
      have := hp.2 gp Z0 w0 N D c T O O' a w xs vs n c1 G1 hS hO hl hv h1 (by rw [hef]; exact hD) hc1
      rw [hef] at this
      refine this.mono ?_
      rintro e w' ⟨v, c', rfl, h2⟩
      exact ⟨v, c', rfl, fun d hd => Sim.tt (h2 d hd)⟩
    · cases hG
def hf : Ob → Ob
  | .dp e t l m => .ty e t l m
  | o => o
section
variable {c c' : Cf} {w : World}
end
section
variable {gp : Option Nat} {Z0 : Nat → Prop} {w0 : Base} {w : World} {N : Nat} {D : Nat → Prop} {c : Cf} {T : Nat → Option AV} {O : Store} {tm : Array Value} {ob : List (Nat × Ob)}
end
structure RowF where
  ks : List IntKind
  pre : List Int → List Int → Prop
  f : List Int → List Int → List Int × Int
  k : Option IntKind
def scOne (k : IntKind) : AV → Option Int
  | .c (.sc (.int k' n)) => if k' = k then some n else none
  | _ => none
def scI : List IntKind → List AV → Option (List Int)
  | [], [] => some []
  | k :: ks, y :: ys => match scOne k y, scI ks ys with
    | some n, some zs => some (n :: zs)
    | _, _ => none
  | _, _ => none
def scV : List IntKind → List Int → List Value
  | k :: ks, n :: ns => .int k n :: scV ks ns
  | _, _ => []
def rowTu (k : Option IntKind) (n : Nat) (r : Int) : AV := match k with
  | none => .c (.ow n)
  | some k => .tu [(false, [.ow n]), (false, [.sc (.int k r)])]
def isTyI (O : Store) (i : Nat) : Bool := match O i with
  | some (.ty _ _ _ _) => true
  | _ => false
def p_row (R : RowF) : Prim := fun xs O n => match xs with
  | .c s :: ys => match frsE O tW32 [s], toR O tW32 [s], scI R.ks ys with
    | some ids, some l, some zs => bif nodupN ids && ids.all (isTyI O) then some (some (R.pre l zs), .g (List Int × Int) (R.f l zs) fun r => ⟨rowTu R.k n r.2, (n, .ty 46 (.it .u32) r.1 0) :: deads ids, 1⟩) else none
    | _, _, _ => none
  | _ => none
def rowVal (k : Option IntKind) (A : Option Addr) (l c : Nat) (r : Int) : Value := match k with
  | none => .slice A l c
  | some k => .tuple #[.slice A l c, .int k r]
def RowOk (P : Program) (f : Nat) (R : RowF) : Prop :=
  (∀ (vs : Array Value) (w : World), (callFunc f vs).run P w = .ok (.enter f vs) w) ∧
  ∀ (base : Nat) (A : Option Addr) (c : Nat) (l zs : List Int) (w : World), base ≤ w.heap.size → Own w base A c l → Wf l → zs.length = R.ks.length → R.pre l zs →
    Calls P f (.slice A l.length c :: scV R.ks zs).toArray w fun e w' => ∃ A' c', e = .returned (rowVal R.k A' (R.f l zs).1.length c' (R.f l zs).2) ∧ Own w' base A' c' (R.f l zs).1 ∧ Wf (R.f l zs).1 ∧ (∀ a, A' = some a → A.map (·.block) = some a.block ∨ w.heap.size ≤ a.block) ∧ w.grownBy w' (A.map (·.block)) ∧ ∀ k, R.k = some k → k.min ≤ (R.f l zs).2 ∧ (R.f l zs).2 ≤ k.max
theorem scOne_sound {c : Cf} {w : World} {k : IntKind} {y : AV} {n : Int} {u : Value} (h : scOne k y = some n) (hv : RA c w u y) : u = .int k n := by
  unfold scOne at h
  split at h
  · split at h
    · rename_i hk
      cases h
      subst hk
      exact hv.1
    · cases h
  · cases h
theorem scI_sound {c : Cf} {w : World} : ∀ {ks : List IntKind} {ys : List AV} {zs : List Int} {us : List Value}, scI ks ys = some zs → us.length = ys.length → (∀ (i : Nat) (v : Value) (x : AV), us[i]? = some v → ys[i]? = some x → RA c w v x) → us = scV ks zs ∧ zs.length = ks.length
  | [], [], zs, us, h, hl, _ => by
    cases h
    exact ⟨List.eq_nil_of_length_eq_zero hl, rfl⟩
  | [], _ :: _, _, _, h, _, _ => by cases h
  | _ :: _, [], _, _, h, _, _ => by cases h
  | k :: ks, y :: ys, zs, [], _, hl, _ => by cases hl
  | k :: ks, y :: ys, zs, u :: us, h, hl, hv => by
    have h : (match scOne k y, scI ks ys with
      | some n, some zs => some (n :: zs)
      | _, _ => none) = some zs := h
    split at h
    · rename_i n zs' h1 h2
      cases h
      obtain ⟨i1, i2⟩ := scI_sound h2 (by simpa using hl) (fun i v x a b => hv (i + 1) v x (by simpa using a) (by simpa using b))
      rw [scOne_sound h1 (hv 0 u y rfl rfl), i1]
      exact ⟨rfl, by rw [List.length_cons, List.length_cons, i2]⟩
    · cases h
theorem row_prim {P : Program} {f : Nat} {R : RowF} (hF : RowOk P f R) : PrimOk P f (p_row R) := by
  refine ⟨hF.1, fun gp Z0 w0 N D c T O O' a w xs vs n cd Gf S hO hl hv h hfr hc => ?_⟩
  unfold p_row at h
  split at h
  · rename_i s ys
    split at h
    · rename_i ids l zs h1 h2 h3
      cases hb : (nodupN ids && ids.all (isTyI O')) with
      | false => rw [hb] at h; cases h
      | true =>
        rw [hb] at h
        cases h
        simp only [Bool.and_eq_true] at hb
        obtain ⟨hnd, hty⟩ := hb
        have hc : R.pre l zs := hc
        have hl0 : vs.toList.length = ys.length + 1 := by simpa using hl
        match hvs : vs.toList, hl0 with
        | v0 :: vt, hl0 =>
          have hv' : ∀ (k : Nat) (v : Value) (z : AV), (v0 :: vt)[k]? = some v → (AV.c s :: ys)[k]? = some z → RA c w v z := fun k v z e1 e2 => hv k v z (by rw [← hvs] at e1; simpa using e1) e2
          obtain ⟨e1, e2⟩ := scI_sound h3 (by simpa using hl0) (fun i v x a b => hv' (i + 1) v x (by simpa using a) (by simpa using b))
          have r0 : RL c w [v0] [s] := RL.one (hv' 0 v0 _ rfl rfl)
          obtain ⟨q1, q2⟩ := frsE_sound S hO h1 h2 r0
          obtain ⟨A, cp, rfl, hbk, hown, hwf⟩ := own_rq q1
          have own : ∀ i ∈ ids, ∃ o, O i = some o ∧ o.live = true ∧ ∀ cs, o ≠ .var cs := fun i hi => by
            obtain ⟨o, o1, o2, _⟩ := q2 i hi
            refine ⟨o, o1, o2, fun cs e => ?_⟩
            subst e
            have := List.all_eq_true.1 hty i hi
            unfold isTyI at this
            split at this
            · rename_i e t l' m hi'
              rw [hO _ _ hi'] at o1
              cases o1
            · cases this
          have hown' : ∀ g, A.map (·.block) = some g → ∃ i q f, O i = some q ∧ q.live = true ∧ (∀ cs, q ≠ .var cs) ∧ c.m i = some f ∧ f.has g ∧ look (deads ids) i = some .dead := fun g hg => by
            have hm : g ∈ blks c ids := by
              rw [hbk]
              cases A with
              | none => cases hg
              | some a0 => cases hg; exact List.mem_singleton.2 rfl
            obtain ⟨i, e, hi, he, hh⟩ := blks_mem hm
            obtain ⟨o, o1, o2, o3⟩ := own i hi
            exact ⟨i, o, e, o1, o2, o3, he, hh, look_deads hi⟩
          have hcn : c.m n = none := by
            cases h : c.m n with
            | none => rfl
            | some f => exact absurd (S.dom n f h) (hfr n (Nat.le_refl _) (Nat.lt_succ_self _))
          have CALL := hF.2 w0.heap.size A cp l zs w S.gr.size hown hwf e2 hc
          rw [show (Value.slice A l.length cp :: scV R.ks zs).toArray = vs by rw [← e1, ← hvs, Array.toArray_toList]] at CALL
          refine CALL.mono ?_
          rintro e w' ⟨A', c', rfl, t1, t2, t3, t4, t5⟩
          have rq : RQ true c.Z w' w0.heap.size tW32 (R.f l zs).1 [.slice A' (R.f l zs).1.length c'] (blkA A') := rq_own t1 t2
          obtain ⟨es, k1, k2, k3⟩ := imE_sound (n := n) rfl (show (blkA A').Nodup by cases A' <;> simp [blkA]) rq
          have k1 : n + 1 = n + es.length := k1
          obtain ⟨en, rfl⟩ : ∃ en, es = [en] := by
            match es, k1 with
            | [en], _ => exact ⟨en, rfl⟩
            | [], k1 => simp at k1
            | _ :: _ :: _, k1 => simp at k1
          have k2 : en.all = blkA A' := by simpa using k2
          obtain ⟨p1, p2⟩ := k3 (c.add n en) (fun k e hk => by
            match k, hk with
            | 0, hk => cases hk; exact Cf.add_at _ _ _
            | k + 1, hk => simp at hk) (fun g h => h)
          have p1 : RL (c.add n en) w' [.slice A' (R.f l zs).1.length c'] [.ow n] := p1
          obtain ⟨v', hv'', hra⟩ := p1.single
          have hok : ObOk (c.add n en) w' n (.ty 46 (.it .u32) (R.f l zs).1 0) := (p2 (n, .ty 46 (.it .u32) (R.f l zs).1 0) List.mem_cons_self).2.2
          refine ⟨_, c.add n en, rfl, fun d hd => ?_⟩
          refine app_simG S hd hcn t4 ?_ (fun i q h => ?_) (fun g hg => hown' g hg) (fun g hg => ?_) hok
          · cases hv''
            show RA (c.add n en) w' (rowVal R.k A' (R.f l zs).1.length c' (R.f l zs).2) (rowTu R.k n (R.f l zs).2)
            cases hk : R.k with
            | none => exact hra
            | some k =>
              refine ⟨_, rfl, rfl, fun i v p e1 e2 => ?_⟩
              match i, e1, e2 with
              | 0, e1, e2 =>
                cases e1
                cases e2
                unfold RP
                rw [if_neg (by simp)]
                exact ⟨_, rfl, hra⟩
              | 1, e1, e2 =>
                cases e1
                cases e2
                unfold RP
                rw [if_neg (by simp)]
                exact ⟨_, rfl, rfl, t5 k hk⟩
              | i + 2, e1, _ => simp at e1
          · obtain ⟨rfl, hi⟩ := deads_look h
            obtain ⟨o, o1, _, o3⟩ := own i hi
            exact ⟨rfl, o, o1, o3⟩
          · have hg : g ∈ en.all := hg
            rw [k2] at hg
            cases A' with
            | none => cases hg
            | some a' =>
              have hg : g = a'.block := List.mem_singleton.1 hg
              subst hg
              rcases t3 a' rfl with h | h
              · obtain ⟨i, q, f, o1, o2, _, o3, o4, o5⟩ := hown' _ h
                exact .inl ⟨i, q, f, o1, o2, o3, o4, o5⟩
              · exact .inr h
    · cases h
  · cases h
theorem own_cells {base e g n c : Nat} : ∀ (vs : List Value) (k : Nat) (xs : List Value) (w : World), w.ownsRow base e 1 (.slice (some ⟨g, 0, none⟩) n c) n xs → k + vs.length ≤ n → (w.setCells g k vs).ownsRow base e 1 (.slice (some ⟨g, 0, none⟩) n c) n (xs.take k ++ vs ++ xs.drop (k + vs.length)) ∧ w.grownBy (w.setCells g k vs) (some g)
  | [], k, xs, w, h, _ => by
    refine ⟨?_, World.grownBy.refl w _⟩
    rw [List.append_nil, List.length_nil, Nat.add_zero, List.take_append_drop]
    exact h
  | v :: vs, k, xs, w, h, hk => by
    rw [List.length_cons] at hk
    have hx : xs.length = n := by have := h.1; simpa using this
    obtain ⟨h1, h2⟩ := World.ownsRow.stored h k v
    obtain ⟨h3, h4⟩ := own_cells vs (k + 1) _ _ h1 (by omega)
    refine ⟨?_, grown_trans h2 h4⟩
    show ((w.setCell ⟨g, k, none⟩ v).setCells g (k + 1) vs).ownsRow base e 1 _ n _
    have e1 : (xs.set k v).take (k + 1) = xs.take k ++ [v] := by
      rw [List.take_add_one, List.getElem?_set_self (by omega)]
      congr 1
      rw [List.take_set, List.set_eq_of_length_le (by rw [List.length_take]; omega)]
    have e2 : (xs.set k v).drop (k + 1 + vs.length) = xs.drop (k + (v :: vs).length) := by
      rw [List.drop_set_of_lt (by omega), List.length_cons]
      congr 1
      omega
    rw [e1, e2] at h3
    rw [List.append_assoc, show v :: vs = [v] ++ vs from rfl]
    simpa [List.append_assoc] using h3
def p_rev : Prim := fun xs O _ => match xs with
  | [.c (.ow i)] => match O i with
    | some (.ty e t l 0) => match cast_ t .st l with
      | some l => bif Nat.beq e 9 then some (some (l ≠ []), .e ⟨.tu [], [(i, .ty 9 .st l.reverse 0)], 0⟩) else none
      | none => none
    | _ => none
  | _ => none
def RevOk (P : Program) (f : Nat) : Prop :=
  (∀ (vs : Array Value) (w : World), (callFunc f vs).run P w = .ok (.enter f vs) w) ∧
  ∀ (g c : Nat) (xs : List ByteArray) (w : World), w.ownsRow 0 9 1 (.slice (some ⟨g, 0, none⟩) xs.length c) xs.length (xs.map Value.string) → xs.length ≤ 9223372036854775807 →
    Calls P f #[.slice (some ⟨g, 0, none⟩) xs.length c] w fun e w' => e = .returned (.tuple #[]) ∧ w'.ownsRow 0 9 1 (.slice (some ⟨g, 0, none⟩) xs.length c) xs.length (xs.reverse.map Value.string) ∧ w.grownBy w' (some g)
theorem rev_prim {P : Program} {f : Nat} (hF : RevOk P f) : PrimOk P f p_rev := by
  refine ⟨hF.1, fun gp Z0 w0 N D c T O O' a w xs vs n cd Gf S hO hl hv h hfr hc => ?_⟩
  unfold p_rev at h
  split at h
  · rename_i i
    split at h
    · rename_i e t l hi
      split at h
      · rename_i l' hcast
        cases hb : Nat.beq e 9 with
        | false => rw [hb] at h; cases h
        | true =>
          rw [hb] at h
          cases h
          have he := Nat.eq_of_beq_eq_true hb
          obtain ⟨rfl, rfl⟩ := cast_eq hcast
          subst he
          have hne : l' ≠ [] := hc
          have hi' := hO _ _ hi
          obtain ⟨en, q1, q0, q2, q3⟩ := S.obj i _ hi'
          rcases q3 with ⟨_, _, hn0, _⟩ | ⟨g, cur, b1, b2, b3, b4, b5, b6, b7⟩
          · exact absurd hn0 hne
          · have b4 : l'.length ≤ en.cp := by have : l'.length + 0 ≤ en.cp := b4; omega
            have q2 : en.ln = l'.length := q2
            have b3 : cur.size = en.cp := by rw [b3]; exact Nat.mul_one _
            match vs, hl with
            | ⟨[v]⟩, _ =>
              obtain ⟨en', z1, rfl⟩ := hv 0 v _ rfl rfl
              rw [q1] at z1
              cases z1
              have own0 : w.ownsRow 0 9 1 (.slice (some ⟨g, 0, none⟩) l'.length en.cp) l'.length (l'.map Value.string) := by
                refine ⟨by simp, .inr ⟨g, en.cp, cur, rfl, Nat.zero_le _, b2, b4, by simp only [maxLen]; exact b5, by rw [b3, Nat.mul_one], ?_⟩⟩
                rw [Nat.mul_one]
                refine List.ext_getElem? fun j => ?_
                rw [List.getElem?_take, List.getElem?_map]
                split
                · rename_i hj
                  obtain ⟨us, e1, e2⟩ := b6 j hj
                  rw [RT] at e1
                  obtain ⟨e1, _⟩ := e1
                  subst e1
                  have := e2 0 _ rfl
                  rw [List.getElem?_eq_getElem hj]
                  have e3 : w.cell? ⟨g, j, none⟩ = some (.string l'[j]) := by
                    have e4 : 0 + (j * Ty.st.size + 0) = j := by show 0 + (j * 1 + 0) = j; omega
                    rw [e4] at this
                    exact this
                  unfold World.cell? at e3
                  rw [b2] at e3
                  simpa using e3
                · rename_i hj
                  rw [List.getElem?_eq_none (by omega)]
                  rfl
              have CALL := hF.2 g en.cp l' w own0 (by simp only [maxI] at b5; omega)
              rw [show (⟨[Value.slice (en.bl.map fun g => ⟨g, 0, none⟩) en.ln en.cp]⟩ : Array Value) = #[.slice (some ⟨g, 0, none⟩) l'.length en.cp] by rw [b1, q2]; rfl]
              refine CALL.mono ?_
              rintro e w' ⟨rfl, t1, t2⟩
              refine ⟨_, c, rfl, fun d hd => ?_⟩
              have st : Stay c.Z w w' := fun k hk => t2.block k (S.zl k hk) (fun e => by
                cases e
                exact S.zo i _ en g hi' rfl q1 (Ent.has_bl b1) hk)
              have lk : ∀ j q, look [(i, Ob.ty 9 .st l'.reverse 0)] j = some q → j = i ∧ q = .ty 9 .st l'.reverse 0 := fun j q h => by
                rw [look_one] at h
                split at h
                · rename_i h0; cases h; exact ⟨h0, rfl⟩
                · cases h
              have hok : ObOk c w' i (.ty 9 .st l'.reverse 0) := by
                obtain ⟨y1, y2⟩ := t1
                rcases y2 with ⟨y3, _⟩ | ⟨g', cap, cur', y3, _, y4, y5, y6, y7, y8⟩
                · cases y3
                · injection y3 with z1 z2 z3
                  injection z1 with z1
                  injection z1 with z1
                  subst z1
                  subst z3
                  refine ⟨en, q1, q0, by rw [List.length_reverse]; exact q2, .inr ⟨g, cur', b1, y4, by rw [y7]; rfl, by rw [List.length_reverse]; exact b4, b5, fun j hj => ?_, fun j us hj => by simp [mks] at hj⟩⟩
                  have hj' : j < l'.length := by rw [List.length_reverse] at hj; exact hj
                  refine ⟨[.string l'.reverse[j]], ?_, fun k u hu => ?_⟩
                  · rw [RT]
                    refine ⟨rfl, ?_⟩
                    have hx : l'.reverse[j] ∈ l' := List.mem_reverse.1 (List.getElem_mem hj)
                    obtain ⟨m, hm, hx⟩ := List.getElem_of_mem hx
                    obtain ⟨us, e1, _⟩ := b6 m hm
                    rw [RT] at e1
                    rw [← hx]
                    exact e1.2
                  · match k, hu with
                    | 0, hu =>
                      cases hu
                      have e4 : 0 + (j * Ty.st.size + 0) = j := by show 0 + (j * 1 + 0) = j; omega
                      rw [e4]
                      have e8 : (cur'.toList.take l'.length)[j]? = (l'.reverse.map Value.string)[j]? := by
                        rw [Nat.mul_one] at y8
                        rw [y8]
                      rw [List.getElem?_take, if_pos hj', List.getElem?_map, List.getElem?_eq_getElem hj] at e8
                      unfold World.cell?
                      rw [y4]
                      simpa using e8
                    | k + 1, hu => simp at hu
              refine S.step hd (Cf.Le.refl c) st ⟨#[], rfl, rfl, fun i v p e1 => by simp at e1⟩ (fun j o h1 h2 h3 f k h4 h5 => ?_) (fun j q h => ?_) (fun j q f k h1 h2 h3 h4 => ?_) (fun j m q r f f' k h1 h2 h3 h4 h5 => ?_) (fun k hk => ?_) (fun j f h => ?_) ?_ (fun j cs q h1 h2 => ?_)
              · refine t2.block k ((S.obj j o h1).lt h3 f k h4 h5) (fun e => ?_)
                cases e
                exact S.inj i j _ o en f g hi' h1 rfl h3 (fun e => by
                  subst e
                  have h2 : look [(i, Ob.ty 9 .st l'.reverse 0)] i = none := h2
                  rw [look_one, if_pos rfl] at h2
                  cases h2) q1 h4 (Ent.has_bl b1) h5
              · obtain ⟨rfl, rfl⟩ := lk j q h
                exact hok
              · obtain ⟨rfl, rfl⟩ := lk j q h1
                exact ⟨.inl ⟨j, _, f, hi', rfl, h3, h4, by
                  show (look [(j, Ob.ty 9 .st l'.reverse 0)] j).isSome = true
                  rw [look_one, if_pos rfl]
                  rfl⟩, S.zo j _ f k hi' rfl h3 h4⟩
              · obtain ⟨rfl, rfl⟩ := lk j q h1
                obtain ⟨rfl, rfl⟩ := lk m r h2
                exact absurd rfl h5
              · exact ⟨Nat.lt_of_lt_of_le (S.zl k hk) t2.size, S.zz k hk, fun j p f h1 h2 h3 h4 h5 => S.zo j p f k h1 h3 h4 h5 hk⟩
              · exact .inl (S.dom j f h)
              · refine ⟨t2.os.trans S.gr.os, t2.tape.trans S.gr.tape, t2.output.trans S.gr.output, Nat.le_trans S.gr.size t2.size, fun k hk' hr' => ?_⟩
                refine (t2.block k (Nat.lt_of_lt_of_le hk' S.gr.size) (fun e0 => ?_)).trans (S.gr.block k hk' hr')
                cases e0
                have := S.gp_not hi' rfl (fun cs h => by cases h) q1 (Ent.has_bl b1)
                omega
              · obtain ⟨rfl, rfl⟩ := lk j q h2
                rw [hi'] at h1
                cases h1
      · cases h
    · cases h
  · cases h
def toN (l : List Int) : Nat := (val l).toNat
def nrm (l : List Int) : Prop := l = wd (toN l)
theorem toN_wd (n : Nat) : toN (wd n) = n := by
  unfold toN
  rw [val_wd]
  rfl
theorem nrm_wd (n : Nat) : nrm (wd n) := by
  unfold nrm
  rw [toN_wd]
theorem nrm_ex {l : List Int} (h : nrm l) : ∃ n, l = wd n := ⟨_, h⟩
theorem rv_wd {Z : Nat → Prop} {w : World} {l : List Int} {v : Value} (h : RV Z w tW32 l v) : ∃ A c, v = .slice A l.length c ∧ Rd w A c l ∧ Wf l := by
  unfold RV at h
  rw [if_neg (by simp [Ty.agg])] at h
  obtain ⟨A, c, e, h1, h2⟩ := rd_of h
  exact ⟨A, c, by simpa using e, h1, h2⟩
theorem blkA1_nodup (A : Option Addr) : (blkA A).Nodup := by cases A <;> simp [blkA]
theorem blkA1_base {w : World} {base : Nat} {A : Option Addr} {c : Nat} {xs : List Int} (h : Own w base A c xs) : ∀ g ∈ blkA A, base ≤ g := fun g hg => by
  cases hA : A with
  | none => rw [hA] at hg; simp [blkA] at hg
  | some a => rw [hA] at hg; simp [blkA] at hg; rw [hA] at h; rw [hg]; exact h.block.1
theorem cmp_rng (m n : Nat) : -1 ≤ cmp m n ∧ cmp m n ≤ 1 := by
  unfold cmp
  repeat' split
  all_goals omega
section
variable {f : Nat} (hc : ∀ (vs : Array Value) (w : World), (callFunc f vs).run Tryz.prog w = .ok (.enter f vs) w)
include hc
end
theorem rq_i64 {Z : Nat → Prop} {w : World} {base : Nat} {e : Int} (h : -1 ≤ e ∧ e ≤ 1) : RQ true Z w base (.it .i64) e [.int .i64 e] [] := by
  refine ⟨?_, rfl⟩
  rw [RT]
  exact ⟨rfl, Int.le_trans (by decide) h.1, Int.le_trans h.2 (by decide)⟩
def sp_aCmp : Spec := { q := .un, ps := [tW32, tW32], rs := [.it .i64], fresh := true, pre := fun _ x => some (nrm x.1 ∧ nrm x.2.1), post := fun _ x => ((), (cmp (toN x.1) (toN x.2.1), ())) }
theorem fo_aCmp : FnOk Tryz.prog 84 sp_aCmp := by
  refine ⟨callFunc_enter Tryz.func84 (by kernel_rfl) rfl, fun Z w gv vs y x hZ hv hp _ _ => ?_⟩
  obtain ⟨xs, ys, u⟩ := x
  match vs, hv with
  | [u, v], ⟨h1, h2, _⟩ =>
    obtain ⟨p1, p2⟩ : nrm xs ∧ nrm ys := hp
    obtain ⟨m, rfl⟩ := nrm_ex p1
    obtain ⟨n, rfl⟩ := nrm_ex p2
    obtain ⟨A, c, rfl, k1, _⟩ := rv_wd h1
    obtain ⟨B, d, rfl, k2, _⟩ := rv_wd h2
    refine (compare_any A B m n c d w k1 k2).mono fun e w' ⟨e1, e2⟩ => ?_
    subst e1
    refine told_new (S := sp_aCmp) (r := (cmp (toN (wd m)) (toN (wd n)), ())) (us := [_]) (bs := []) rfl rfl (.inl ⟨_, rfl, rfl⟩) hZ ⟨[], [], rfl, ⟨?_, rfl⟩, rfl⟩ List.nodup_nil (fun g hg => by simp at hg) e2
    rw [RT, toN_wd, toN_wd]
    have := cmp_rng m n
    exact ⟨rfl, Int.le_trans (by decide) this.1, Int.le_trans this.2 (by decide)⟩
theorem told_WE {gv : Nat} {S : Spec} {Z : Nat → Prop} {w w' : World} {n : Nat} {e : Int} {A : Option Addr} {c : Nat} (hS : S.ptr = false) (hf : S.fresh = true) (hrs : S.rs = [tW32, .it .i64]) (he : Er e) (h1 : Own w' w.heap.size A c (wd n)) (h2 : Ext w w') (hZ : ∀ g, Z g → g < w.heap.size) {q : El S.q} {r : Els S.rs} (hr : r = hrs ▸ ((wd n, e, ()) : Els [tW32, .it .i64])) :
    ∃ v us bs Z', Ending.returned (.tuple #[.slice A (wd n).length c, .int .i64 e]) = .returned v ∧ told_ us v ∧ RQs S.fresh Z' w' w.heap.size S.rs r us bs ∧ bs.Nodup ∧ (∀ g ∈ bs, ¬ Z' g) ∧
      (∀ g, Z g → Z' g) ∧ (∀ g, Z' g → Z g ∨ w.heap.size ≤ g) ∧ (∀ g, Z' g → g < w'.heap.size) ∧ w.grownBy w' (if S.ptr = true then some gv else none) ∧
      (S.ptr = true → ∃ cells et, w'.heap[gv]? = some (.cells cells et (0, 0)) ∧ RT Z' w' S.q q cells.toList) := by
  refine told_new (us := [.slice A (wd n).length c, .int .i64 e]) (bs := blkA A) hS hf (.inr ⟨by simp, rfl⟩) hZ ?_ (blkA1_nodup A) (blkA1_base h1) h2
  obtain ⟨qq, ps, rs, fresh, pre, post⟩ := S
  cases hrs
  subst hr
  exact ⟨_, [], (List.append_nil _).symm, rq_own h1 (wf_wd n), [], [], rfl, rq_err (base := w.heap.size) he, rfl⟩
def sp_aGcd : Spec := { q := .un, ps := [tW32, tW32], rs := [tW32, .it .i64], fresh := true, pre := fun _ x => some (nrm x.1 ∧ nrm x.2.1 ∧ x.1.length ≤ 8192 ∧ x.2.1.length ≤ 8192), post := fun _ x => ((), (wd (Nat.gcd (toN x.1) (toN x.2.1)), 0, ())) }
theorem fo_aGcd : FnOk Tryz.prog 87 sp_aGcd := by
  refine ⟨callFunc_enter Tryz.func87 (by kernel_rfl) rfl, fun Z w gv vs y x hZ hv hp _ _ => ?_⟩
  obtain ⟨xs, ys, u⟩ := x
  match vs, hv with
  | [u, v], ⟨h1, h2, _⟩ =>
    obtain ⟨p1, p2, p3, p4⟩ : nrm xs ∧ nrm ys ∧ xs.length ≤ 8192 ∧ ys.length ≤ 8192 := hp
    obtain ⟨m, rfl⟩ := nrm_ex p1
    obtain ⟨n, rfl⟩ := nrm_ex p2
    obtain ⟨A, c, rfl, k1, _⟩ := rv_wd h1
    obtain ⟨B, d, rfl, k2, _⟩ := rv_wd h2
    refine (gcd_any A B m n c d w k1 k2 p3 p4).mono fun e w' ⟨A', c', e1, e2, e3⟩ => ?_
    subst e1
    exact told_WE (S := sp_aGcd) rfl rfl rfl Er.zero e2 e3 hZ (by show ((wd (Nat.gcd (toN (wd m)) (toN (wd n))), (0 : Int), ()) : Els [tW32, .it .i64]) = _; rw [toN_wd, toN_wd])
theorem fsign_rng (a : Fr) : -1 ≤ fsign a ∧ fsign a ≤ 1 := by
  unfold fsign
  repeat' split
  all_goals constructor <;> decide
def sp_rSgn : Spec := { q := .un, ps := [tR], rs := [.it .i64], fresh := true, pre := fun _ _ => none, post := fun _ x => ((), (fsign (toFr x.1), ())) }
theorem fo_rSgn : FnOk Tryz.prog 20 sp_rSgn := by
  refine ⟨callFunc_enter Tryz.func20 (by kernel_rfl) rfl, fun Z w gv vs y x hZ hv hp _ _ => ?_⟩
  match vs, hv with
  | [u], ⟨h1, _⟩ =>
    obtain ⟨p, rfl, k1⟩ := rv_fr h1
    refine (sign_fr (toFr x.1) p.A p.B _ _ w k1.num k1.den k1.wf).mono fun e w' ⟨e1, e2⟩ => ?_
    subst e1
    exact told_new (S := sp_rSgn) (r := (fsign (toFr x.1), ())) (us := [_]) (bs := []) rfl rfl (.inl ⟨_, rfl, rfl⟩) hZ ⟨[], [], rfl, rq_i64 (base := w.heap.size) (fsign_rng _), rfl⟩ List.nodup_nil (fun g hg => by simp at hg) e2
theorem toGa_of (a : Ga) : toGa (ofGa a) = a := rfl
end Go.Proofs.YtjoonfegjobgbaaGreatDoor
