/- Texts of this claim, joined: B9 A26 Y2 U3 Y4 B10 B11 Y5 Y7 U15 B12 A27 B13 B14 B15 B16 B17 B18 H0 H1 P10 P11 P12 A30. -/
import Derived.Deep.AppendLies
import Derived.Deep.RegionHeldLaw
import Derived.Test.YtakaehdolpmelaaGreatDoorQq
set_option linter.unusedVariables false
set_option linter.unusedSimpArgs false
set_option maxRecDepth 100000
namespace Go.Proofs.YtakaehdolpmelaaGreatDoor
open Go Go.RowKit
noncomputable def sp_kSameWords : Spec := { q := .un, ps := [tW32, tW32], rs := [.bo], fresh := true, pre := fun _ _ => none, post := fun _ x => ((), (decide (x.1 = x.2.1), ())) }
noncomputable def iv_kSameWords (y : El sp_kSameWords.q) (x : Els sp_kSameWords.ps) : Nat → Option Inv := fun k => if k = 0 then some { X := Nat, tm := fun i => [(0, .c (.sl (.it .u32) x.1)), (1, .c (.sl (.it .u32) x.2.1)), (5, .c (.sc (.int .i64 i)))], ob := fun _ => [], n := 1, I := fun i => i ≤ x.1.length ∧ x.1.length = x.2.1.length ∧ x.1.take i = x.2.1.take i, μ := fun i => x.1.length - i } else none
noncomputable abbrev c_kSameWords : Cfg := cfgS (Tryz.f66).ntmps false []
theorem w_kSameWords (y : El sp_kSameWords.q) (x : Els sp_kSameWords.ps) : aW c_kSameWords (iv_kSameWords y x) Tryz.f66 sp_kSameWords y x =
  ((((x.1.length : Int) != (x.2.1.length : Int)) = true → (false, ()) = (decide (x.1 = x.2.1), ())) ∧ (((x.1.length : Int) != (x.2.1.length : Int)) = false → (∃ (x_1 : Nat), x.1 = x.1 ∧ x.2.1 = x.2.1 ∧ (↑x_1 : Int) = (0 : Int) ∧ x_1 ≤ List.length x.1 ∧ List.length x.1 = List.length x.2.1 ∧ List.take x_1 x.1 = List.take x_1 x.2.1) ∧ ∀ (x_1 : Nat), x_1 ≤ List.length x.1 ∧ List.length x.1 = List.length x.2.1 ∧ List.take x_1 x.1 = List.take x_1 x.2.1 → (decide ((↑x_1 : Int) < (x.1.length : Int)) = true → ((0 : Int) ≤ (↑x_1 : Int) ∧ (↑x_1 : Int) < (x.1.length : Int)) ∧ ((0 : Int) ≤ (↑x_1 : Int) ∧ (↑x_1 : Int) < (x.2.1.length : Int)) ∧ ((List.getD x.1 (↑x_1 : Int).toNat (dfl (Ty.it IntKind.u32)) != List.getD x.2.1 (↑x_1 : Int).toNat (dfl (Ty.it IntKind.u32))) = true → (false, ()) = (decide (x.1 = x.2.1), ())) ∧ ((List.getD x.1 (↑x_1 : Int).toNat (dfl (Ty.it IntKind.u32)) != List.getD x.2.1 (↑x_1 : Int).toNat (dfl (Ty.it IntKind.u32))) = false → ((-9223372036854775808 : Int) ≤ (↑x_1 : Int) + (1 : Int) ∧ (↑x_1 : Int) + (1 : Int) ≤ (9223372036854775807 : Int)) ∧ ∃ (x' : Nat), x.1 = x.1 ∧ x.2.1 = x.2.1 ∧ (↑x' : Int) = (↑x_1 : Int) + (1 : Int) ∧ (x' ≤ List.length x.1 ∧ List.length x.1 = List.length x.2.1 ∧ List.take x' x.1 = List.take x' x.2.1) ∧ List.length x.1 - x' < List.length x.1 - x_1)) ∧ (decide ((↑x_1 : Int) < (x.1.length : Int)) = false → (true, ()) = (decide (x.1 = x.2.1), ())))) := by kernel_rfl
theorem m_kSameWords (y : El (.un)) (x : Els [tW32, tW32]) (h2 : wfE (.un) y) (h3 : wfEs [tW32, tW32] x) :
  ((((x.1.length : Int) != (x.2.1.length : Int)) = true → (false, ()) = (decide (x.1 = x.2.1), ())) ∧ (((x.1.length : Int) != (x.2.1.length : Int)) = false → (∃ (x_1 : Nat), x.1 = x.1 ∧ x.2.1 = x.2.1 ∧ (↑x_1 : Int) = (0 : Int) ∧ x_1 ≤ List.length x.1 ∧ List.length x.1 = List.length x.2.1 ∧ List.take x_1 x.1 = List.take x_1 x.2.1) ∧ ∀ (x_1 : Nat), x_1 ≤ List.length x.1 ∧ List.length x.1 = List.length x.2.1 ∧ List.take x_1 x.1 = List.take x_1 x.2.1 → (decide ((↑x_1 : Int) < (x.1.length : Int)) = true → ((0 : Int) ≤ (↑x_1 : Int) ∧ (↑x_1 : Int) < (x.1.length : Int)) ∧ ((0 : Int) ≤ (↑x_1 : Int) ∧ (↑x_1 : Int) < (x.2.1.length : Int)) ∧ ((List.getD x.1 (↑x_1 : Int).toNat (dfl (Ty.it IntKind.u32)) != List.getD x.2.1 (↑x_1 : Int).toNat (dfl (Ty.it IntKind.u32))) = true → (false, ()) = (decide (x.1 = x.2.1), ())) ∧ ((List.getD x.1 (↑x_1 : Int).toNat (dfl (Ty.it IntKind.u32)) != List.getD x.2.1 (↑x_1 : Int).toNat (dfl (Ty.it IntKind.u32))) = false → ((-9223372036854775808 : Int) ≤ (↑x_1 : Int) + (1 : Int) ∧ (↑x_1 : Int) + (1 : Int) ≤ (9223372036854775807 : Int)) ∧ ∃ (x' : Nat), x.1 = x.1 ∧ x.2.1 = x.2.1 ∧ (↑x' : Int) = (↑x_1 : Int) + (1 : Int) ∧ (x' ≤ List.length x.1 ∧ List.length x.1 = List.length x.2.1 ∧ List.take x' x.1 = List.take x' x.2.1) ∧ List.length x.1 - x' < List.length x.1 - x_1)) ∧ (decide ((↑x_1 : Int) < (x.1.length : Int)) = false → (true, ()) = (decide (x.1 = x.2.1), ())))) := by
  have hL : x.1.length ≤ 9223372036854775807 := h3.1.1
  refine ⟨fun h => ?_, fun h => ⟨⟨0, rfl, rfl, rfl, Nat.zero_le _, by simpa [Int.ofNat_inj] using h, rfl⟩, fun i hi => ⟨fun hl => ?_, fun hl => ?_⟩⟩⟩
  · have : x.1 ≠ x.2.1 := fun e => by rw [e] at h; simp at h
    rw [decide_eq_false this]
  · obtain ⟨h0, h1, h2⟩ := hi
    have hl := of_decide_eq_true hl
    have a1 : i < x.1.length := by omega
    have a2 : i < x.2.1.length := by omega
    have g1 : x.1.getD ((i : Int)).toNat (dfl (Ty.it IntKind.u32)) = x.1[i] := by
      rw [Int.toNat_natCast, List.getD_eq_getElem?_getD, List.getElem?_eq_getElem a1]; rfl
    have g2 : x.2.1.getD ((i : Int)).toNat (dfl (Ty.it IntKind.u32)) = x.2.1[i] := by
      rw [Int.toNat_natCast, List.getD_eq_getElem?_getD, List.getElem?_eq_getElem a2]; rfl
    rw [g1, g2]
    refine ⟨⟨by omega, hl⟩, ⟨by omega, by omega⟩, fun k => ?_, fun k => ⟨by omega, i + 1, rfl, rfl, rfl, ⟨a1, h1, ?_⟩, by omega⟩⟩
    · have k := bne_iff_ne.1 k
      have : x.1 ≠ x.2.1 := fun e => k (by congr 1)
      rw [decide_eq_false this]
    · have k : x.1[i] = x.2.1[i] := by simpa using k
      rw [List.take_add_one, List.take_add_one, h2, List.getElem?_eq_getElem a1, List.getElem?_eq_getElem a2, k]
  · obtain ⟨h0, h1, h2⟩ := hi
    have hl := of_decide_eq_false hl
    rw [List.take_of_length_le (by omega), List.take_of_length_le (by omega)] at h2
    rw [decide_eq_true h2]
theorem fo_kSameWords : FnOk Tryz.prog 66 sp_kSameWords := fnOk_of (C := c_kSameWords) iv_kSameWords Tryz.func66 rfl (by kernel_rfl) tys_ok prims_nil mixed_ (Nat.le_refl _) rfl fun y x h1 h2 h3 h4 =>
  Eq.mpr (w_kSameWords y x) (m_kSameWords y x h2 h3)
noncomputable def sp_kSameRatio : Spec := { q := .un, ps := [tR, tR], rs := [.bo], fresh := true, pre := fun _ _ => none, post := fun _ x => ((), (decide (toFr x.1 = toFr x.2.1), ())) }
noncomputable def iv_kSameRatio (y : El sp_kSameRatio.q) (x : Els sp_kSameRatio.ps) : Nat → Option Inv := fun _ => none
noncomputable abbrev c_kSameRatio : Cfg := cfgS (Tryz.f22).ntmps false [(66, sp_kSameWords.prim)]
theorem w_kSameRatio (y : El sp_kSameRatio.q) (x : Els sp_kSameRatio.ps) : aW c_kSameRatio (iv_kSameRatio y x) Tryz.f22 sp_kSameRatio y x =
  (((x.1.1 == x.2.1.1) = true → ∀ (r : Ro [Ty.bo]), r = ((), decide (x.1.2.1 = x.2.1.2.1), ()) → (r.2.1 = true → ∀ (r : Ro [Ty.bo]), r = ((), decide (x.1.2.2.1 = x.2.1.2.2.1), ()) → r.2 = (decide (toFr x.1 = toFr x.2.1), ())) ∧ (r.2.1 = false → (false, ()) = (decide (toFr x.1 = toFr x.2.1), ()))) ∧ ((x.1.1 == x.2.1.1) = false → (false, ()) = (decide (toFr x.1 = toFr x.2.1), ()))) := by kernel_rfl
theorem m_kSameRatio (y : El (.un)) (x : Els [tR, tR]) (h2 : wfE (.un) y) (h3 : wfEs [tR, tR] x) :
  (((x.1.1 == x.2.1.1) = true → ∀ (r : Ro [Ty.bo]), r = ((), decide (x.1.2.1 = x.2.1.2.1), ()) → (r.2.1 = true → ∀ (r : Ro [Ty.bo]), r = ((), decide (x.1.2.2.1 = x.2.1.2.2.1), ()) → r.2 = (decide (toFr x.1 = toFr x.2.1), ())) ∧ (r.2.1 = false → (false, ()) = (decide (toFr x.1 = toFr x.2.1), ()))) ∧ ((x.1.1 == x.2.1.1) = false → (false, ()) = (decide (toFr x.1 = toFr x.2.1), ()))) := by
  obtain ⟨⟨s, a, b, _⟩, ⟨t, c, d, _⟩, _⟩ := x
  refine ⟨fun h => ?_, fun h => ?_⟩
  · rintro _ rfl
    refine ⟨fun k => ?_, fun k => ?_⟩
    · rintro _ rfl
      have hs : s = t := by simpa using h
      have hk : a = c := by simpa using k
      subst hs
      subst hk
      simp [toFr]
    · have k : a ≠ c := by simpa using k
      simp [toFr, k]
  · have h : s ≠ t := by simpa using h
    simp [toFr, h]
theorem fo_kSameRatio : FnOk Tryz.prog 22 sp_kSameRatio := fnOk_of (C := c_kSameRatio) iv_kSameRatio Tryz.func22 rfl (by kernel_rfl) tys_ok (prims_cons (spec_prim fo_kSameWords) prims_nil) mixed_ (Nat.le_refl _) rfl fun y x h1 h2 h3 h4 =>
  Eq.mpr (w_kSameRatio y x) (m_kSameRatio y x h2 h3)
noncomputable def sp_kSameGauss : Spec := { q := .un, ps := [tG, tG], rs := [.bo], fresh := true, pre := fun _ _ => none, post := fun _ x => ((), (decide (toGa x.1 = toGa x.2.1), ())) }
noncomputable def iv_kSameGauss (y : El sp_kSameGauss.q) (x : Els sp_kSameGauss.ps) : Nat → Option Inv := fun _ => none
noncomputable abbrev c_kSameGauss : Cfg := cfgS (Tryz.f51).ntmps false [(22, sp_kSameRatio.prim)]
theorem w_kSameGauss (y : El sp_kSameGauss.q) (x : Els sp_kSameGauss.ps) : aW c_kSameGauss (iv_kSameGauss y x) Tryz.f51 sp_kSameGauss y x =
  (∀ (r : Ro [Ty.bo]), r = ((), decide (toFr x.1.1 = toFr x.2.1.1), ()) → (r.2.1 = true → ∀ (r : Ro [Ty.bo]), r = ((), decide (toFr x.1.2.1 = toFr x.2.1.2.1), ()) → r.2 = (decide (toGa x.1 = toGa x.2.1), ())) ∧ (r.2.1 = false → (false, ()) = (decide (toGa x.1 = toGa x.2.1), ()))) := by kernel_rfl
theorem m_kSameGauss (y : El (.un)) (x : Els [tG, tG]) (h2 : wfE (.un) y) (h3 : wfEs [tG, tG] x) :
  (∀ (r : Ro [Ty.bo]), r = ((), decide (toFr x.1.1 = toFr x.2.1.1), ()) → (r.2.1 = true → ∀ (r : Ro [Ty.bo]), r = ((), decide (toFr x.1.2.1 = toFr x.2.1.2.1), ()) → r.2 = (decide (toGa x.1 = toGa x.2.1), ())) ∧ (r.2.1 = false → (false, ()) = (decide (toGa x.1 = toGa x.2.1), ()))) := by
  rintro _ rfl
  refine ⟨fun k => ?_, fun k => ?_⟩
  · rintro _ rfl
    simp_all
  · simp_all
theorem fo_kSameGauss : FnOk Tryz.prog 51 sp_kSameGauss := fnOk_of (C := c_kSameGauss) iv_kSameGauss Tryz.func51 rfl (by kernel_rfl) tys_ok (prims_cons (spec_prim fo_kSameRatio) prims_nil) mixed_ (Nat.le_refl _) rfl fun y x h1 h2 h3 h4 =>
  Eq.mpr (w_kSameGauss y x) (m_kSameGauss y x h2 h3)
section
variable {gp : Option Nat} {Z0 : Nat → Prop} {w0 w w' : World} {D : Nat → Prop} {c : Cf} {T : Nat → Option AV} {O : Store} {a : Act} {N : Nat}
end
section
variable {wb w0 w w' : World} {row : Option Nat} {V : List (Nat × List Value)} {R : List (Adr × Fr)}
end
def pick {α : Type} (R : List α) : List Nat → List α
  | [] => []
  | i :: I => match R[i]? with
    | some x => x :: pick R I
    | none => pick R I
section
variable {wb w0 w w' : World} {row : Option Nat} {V : List (Nat × List Value)} {R : List (Adr × Fr)}
end
section
variable {wb w0 w w' : World} {row : Option Nat} {V : List (Nat × List Value)} {R : List (Adr × Fr)}
end
section
variable {gp : Option Nat} {Z0 : Nat → Prop} {w0 w w' : World} {D : Nat → Prop} {c : Cf} {T : Nat → Option AV} {O : Store} {a : Act} {N : Nat}
end
def cut (w : World) (n : Nat) : World := { w with heap := w.heap.extract 0 n }
theorem nff {b : Bool} (h : (!b) = false) : b = true := by simpa using h
theorem ltT {a b : Int} (h : decide (a < b) = true) : a < b := of_decide_eq_true h
theorem ltF {a b : Int} (h : decide (a < b) = false) : b ≤ a := by have := of_decide_eq_false h; omega
theorem gtT {a b : Int} (h : decide (a > b) = true) : b < a := of_decide_eq_true h
theorem leT {a b : Int} (h : decide (a ≤ b) = true) : a ≤ b := of_decide_eq_true h
theorem leF {a b : Int} (h : decide (a ≤ b) = false) : b < a := by have := of_decide_eq_false h; omega
theorem eqT {a b : Int} (h : (a == b) = true) : a = b := eq_of_beq h
theorem eqF {a b : Int} (h : (a == b) = false) : a ≠ b := ne_of_beq_false h
theorem neT {a b : Int} (h : (a != b) = true) : a ≠ b := by simpa using h
theorem wrap64_32 {a : Int} (h : -2147483648 ≤ a ∧ a ≤ 2147483647) : IntKind.i64.wrap a = a := wrap_id (k := .i64) (by have : IntKind.i64.min = -9223372036854775808 := rfl; omega) (by have : IntKind.i64.max = 9223372036854775807 := rfl; omega)
def gint (a b : Int) : Ga := ⟨(fsmall a 1).1, (fsmall b 1).1⟩
section
variable {t r : Ga}
end
section
variable {r : El tRule}
end
def gone (r : Ga) : Ga × Int := if r = gint (-1) 0 then (Ga.zero, 7) else gadd (gint 1 0) r
def dg1 : ByteArray := ⟨#[48, 49, 50, 51, 52, 53, 54, 55, 56, 57, 97, 98, 99, 100, 101, 102, 103, 104, 105, 106, 107, 108, 109, 110, 111, 112, 113, 114, 115, 116, 117, 118, 119, 120, 121, 122]⟩
def dg2 : ByteArray := ⟨(([48, 48, 48, 49, 48, 50, 48, 51, 48, 52, 48, 53, 48, 54, 48, 55, 48, 56, 48, 57, 49, 48, 49, 49, 49, 50, 49, 51, 49, 52, 49, 53, 49, 54, 49, 55, 49, 56, 49, 57, 50, 48, 50, 49, 50, 50, 50, 51, 50, 52].append [50, 53, 50, 54, 50, 55, 50, 56, 50, 57, 51, 48, 51, 49, 51, 50, 51, 51, 51, 52, 51, 53, 51, 54, 51, 55, 51, 56, 51, 57, 52, 48, 52, 49, 52, 50, 52, 51, 52, 52, 52, 53, 52, 54, 52, 55, 52, 56, 52, 57]).append ([53, 48, 53, 49, 53, 50, 53, 51, 53, 52, 53, 53, 53, 54, 53, 55, 53, 56, 53, 57, 54, 48, 54, 49, 54, 50, 54, 51, 54, 52, 54, 53, 54, 54, 54, 55, 54, 56, 54, 57, 55, 48, 55, 49, 55, 50, 55, 51, 55, 52].append [55, 53, 55, 54, 55, 55, 55, 56, 55, 57, 56, 48, 56, 49, 56, 50, 56, 51, 56, 52, 56, 53, 56, 54, 56, 55, 56, 56, 56, 57, 57, 48, 57, 49, 57, 50, 57, 51, 57, 52, 57, 53, 57, 54, 57, 55, 57, 56, 57, 57])).toArray⟩
def dgB (n : Nat) : ByteArray := if n < 10 then dg1.extract n (n + 1) else dg2.extract (n * 2) (n * 2 + 2)
noncomputable def sp_ssmall : Spec := { q := .un, ps := [.it .i64], rs := [.st], fresh := true, pre := fun _ x => some ((0 : Int) ≤ (x.1 : Int) ∧ (x.1 : Int) < 100), post := fun _ x => ((), (dgB x.1.toNat, ())) }
noncomputable def iv_ssmall (y : El sp_ssmall.q) (x : Els sp_ssmall.ps) : Nat → Option Inv := fun _ => none
noncomputable abbrev c_ssmall : Cfg := cfgS (Tryz.f157).ntmps false []
def F_ssmall (y : El sp_ssmall.q) (x : Els sp_ssmall.ps) : Prop :=
  (fun (i1 : Int) => (decide (i1 < (10 : Int)) = true → ((-9223372036854775808 : Int) ≤ i1 + (1 : Int) ∧ i1 + (1 : Int) ≤ (9223372036854775807 : Int)) ∧ ((0 : Int) ≤ i1 ∧ i1 ≤ i1 + (1 : Int) ∧ i1 + (1 : Int) ≤ (dg1.size : Int)) ∧ (dg1.extract (Int.toNat i1) (i1 + (1 : Int)).toNat, ()) = (dgB (Int.toNat i1), ())) ∧ (decide (i1 < (10 : Int)) = false → ((-9223372036854775808 : Int) ≤ i1 * (2 : Int) ∧ i1 * (2 : Int) ≤ (9223372036854775807 : Int)) ∧ ((-9223372036854775808 : Int) ≤ i1 * (2 : Int) ∧ i1 * (2 : Int) ≤ (9223372036854775807 : Int)) ∧ ((-9223372036854775808 : Int) ≤ i1 * (2 : Int) + (2 : Int) ∧ i1 * (2 : Int) + (2 : Int) ≤ (9223372036854775807 : Int)) ∧ ((0 : Int) ≤ i1 * (2 : Int) ∧ i1 * (2 : Int) ≤ i1 * (2 : Int) + (2 : Int) ∧ i1 * (2 : Int) + (2 : Int) ≤ (↑dg2.size : Int)) ∧ (dg2.extract (i1 * (2 : Int)).toNat (i1 * (2 : Int) + (2 : Int)).toNat, ()) = (dgB (Int.toNat i1), ()))) x.1
theorem w_ssmall (y : El sp_ssmall.q) (x : Els sp_ssmall.ps) : aW c_ssmall (iv_ssmall y x) Tryz.f157 sp_ssmall y x = F_ssmall y x := by kernel_rfl
theorem m_ssmall (y : El (.un)) (x : Els [.it .i64]) (h2 : wfE (.un) y) (h3 : wfEs [.it .i64] x) (h4 : (0 : Int) ≤ (x.1 : Int) ∧ (x.1 : Int) < 100) : F_ssmall y x := by
  unfold F_ssmall
  dsimp only
  obtain ⟨p0, p1⟩ : @LE.le Int _ 0 x.1 ∧ @LT.lt Int _ x.1 100 := h4
  have s1 : dg1.size = 36 := by decide +kernel
  have s2 : dg2.size = 200 := by decide +kernel
  refine ⟨fun h => ?_, fun h => ?_⟩
  · have h := ltT h
    refine ⟨⟨by omega, by omega⟩, ⟨by omega, by omega, by rw [s1]; omega⟩, ?_⟩
    unfold dgB
    rw [if_pos (by omega), show ((x.1 : Int) + 1).toNat = Int.toNat x.1 + 1 by omega]
  · have h := ltF h
    refine ⟨⟨by omega, by omega⟩, ⟨by omega, by omega⟩, ⟨by omega, by omega⟩, ⟨by omega, by omega, by rw [s2]; omega⟩, ?_⟩
    unfold dgB
    rw [if_neg (by omega), show ((x.1 : Int) * 2 + 2).toNat = Int.toNat x.1 * 2 + 2 by omega, show ((x.1 : Int) * 2).toNat = Int.toNat x.1 * 2 by omega]
theorem fo_ssmall : FnOk Tryz.prog 157 sp_ssmall := fnOk_of (C := c_ssmall) iv_ssmall Tryz.func157 rfl (by kernel_rfl) tys_ok prims_nil mixed_ (Nat.le_refl _) rfl fun y x h1 h2 h3 h4 =>
  Eq.mpr (w_ssmall y x) (m_ssmall y x h2 h3 h4)
theorem wrap64_s {n : Int} (h0 : 0 ≤ n) (h1 : n < 100) : IntKind.i64.wrap n = n := by
  exact wrap64_32 ⟨by omega, by omega⟩
noncomputable def sp_sfmtI : Spec := { q := .un, ps := [.it .u64, .it .i64], rs := [.st], fresh := true, pre := fun _ x => some ((0 : Int) ≤ (x.1 : Int) ∧ (x.1 : Int) < 100 ∧ (x.2.1 : Int) = 10), post := fun _ x => ((), (dgB x.1.toNat, ())) }
noncomputable def iv_sfmtI (y : El sp_sfmtI.q) (x : Els sp_sfmtI.ps) : Nat → Option Inv := fun _ => none
noncomputable abbrev c_sfmtI : Cfg := cfgS (Tryz.f127).ntmps false [(157, sp_ssmall.prim)]
def F_sfmtI (y : El sp_sfmtI.q) (x : Els sp_sfmtI.ps) : Prop :=
  ((x.2.1 == (10 : Int)) = true → (decide (x.1 < (100 : Int)) = true → ((0 : Int) ≤ IntKind.i64.wrap x.1 ∧ IntKind.i64.wrap x.1 < (100 : El (Ty.it IntKind.i64))) ∧ ∀ (r : Ro [Ty.st]), r = ((), dgB (IntKind.i64.wrap x.1).toNat, ()) → r.2 = (dgB (Int.toNat x.1), ())) ∧ (decide (x.1 < (100 : Int)) = false → False)) ∧ ((x.2.1 == (10 : Int)) = false → False)
theorem w_sfmtI (y : El sp_sfmtI.q) (x : Els sp_sfmtI.ps) : aW c_sfmtI (iv_sfmtI y x) Tryz.f127 sp_sfmtI y x = F_sfmtI y x := by kernel_rfl
theorem m_sfmtI (y : El (.un)) (x : Els [.it .u64, .it .i64]) (h2 : wfE (.un) y) (h3 : wfEs [.it .u64, .it .i64] x) (h4 : (0 : Int) ≤ (x.1 : Int) ∧ (x.1 : Int) < 100 ∧ (x.2.1 : Int) = 10) : F_sfmtI y x := by
  unfold F_sfmtI
  obtain ⟨p0, p1, p2⟩ : @LE.le Int _ 0 x.1 ∧ @LT.lt Int _ x.1 100 ∧ @Eq Int x.2.1 10 := h4
  have e := wrap64_s p0 p1
  refine ⟨fun _ => ⟨fun _ => ?_, fun h => absurd (ltF h) (Int.not_le.2 p1)⟩, fun h => absurd p2 (neT (by simpa using h))⟩
  rw [e]
  refine ⟨⟨p0, p1⟩, ?_⟩
  rintro _ rfl
  rfl
theorem fo_sfmtI : FnOk Tryz.prog 127 sp_sfmtI := fnOk_of (C := c_sfmtI) iv_sfmtI Tryz.func127 rfl (by kernel_rfl) tys_ok (prims_cons (spec_prim fo_ssmall) prims_nil) mixed_ (Nat.le_refl _) rfl fun y x h1 h2 h3 h4 =>
  Eq.mpr (w_sfmtI y x) (m_sfmtI y x h2 h3 h4)
noncomputable def sp_sfmt : Spec := { q := .un, ps := [.it .u64, .it .i64], rs := [.st], fresh := true, pre := fun _ x => some ((0 : Int) ≤ (x.1 : Int) ∧ (x.1 : Int) < 100 ∧ (x.2.1 : Int) = 10), post := fun _ x => ((), (dgB x.1.toNat, ())) }
noncomputable def iv_sfmt (y : El sp_sfmt.q) (x : Els sp_sfmt.ps) : Nat → Option Inv := fun _ => none
noncomputable abbrev c_sfmt : Cfg := cfgS (Tryz.f101).ntmps false [(127, sp_sfmtI.prim)]
def F_sfmt (y : El sp_sfmt.q) (x : Els sp_sfmt.ps) : Prop :=
  ((0 : Int) ≤ x.1 ∧ x.1 < (100 : El (Ty.it IntKind.u64)) ∧ x.2.1 = (10 : El (Ty.it IntKind.i64))) ∧ ∀ (r : Ro [Ty.st]), r = ((), dgB (Int.toNat x.1), ()) → r.2 = (dgB (Int.toNat x.1), ())
theorem w_sfmt (y : El sp_sfmt.q) (x : Els sp_sfmt.ps) : aW c_sfmt (iv_sfmt y x) Tryz.f101 sp_sfmt y x = F_sfmt y x := by kernel_rfl
theorem m_sfmt (y : El (.un)) (x : Els [.it .u64, .it .i64]) (h2 : wfE (.un) y) (h3 : wfEs [.it .u64, .it .i64] x) (h4 : (0 : Int) ≤ (x.1 : Int) ∧ (x.1 : Int) < 100 ∧ (x.2.1 : Int) = 10) : F_sfmt y x := by
  unfold F_sfmt
  refine ⟨h4, ?_⟩
  rintro _ rfl
  rfl
theorem fo_sfmt : FnOk Tryz.prog 101 sp_sfmt := fnOk_of (C := c_sfmt) iv_sfmt Tryz.func101 rfl (by kernel_rfl) tys_ok (prims_cons (spec_prim fo_sfmtI) prims_nil) mixed_ (Nat.le_refl _) rfl fun y x h1 h2 h3 h4 =>
  Eq.mpr (w_sfmt y x) (m_sfmt y x h2 h3 h4)
theorem calls_st {P : Program} {f : Nat} {ts : List Ty} {pre : El .un → Els ts → Option Prop} {F : Els ts → ByteArray} {W : World} {Z : Nat → Prop} {x : Els ts} {vs : List Value} (h : FnOk P f { q := .un, ps := ts, rs := [.st], fresh := true, pre := pre, post := fun _ x => ((), (F x, ())) }) (hp : holds (pre () x)) (hz : ∀ g, Z g → g < W.heap.size) (hv : RVs Z W ts x vs) : Calls P f vs.toArray W fun e W' => e = .returned (.string (F x)) ∧ Ext W W' := by
  refine (h.2 Z W 0 vs () x hz hv hp (fun e => by cases e) (fun _ => rfl)).mono ?_
  rintro e w' ⟨v, us, bs, Z', rfl, t1, t2, _, _, _, _, _, t8, _⟩
  have t8 : W.grownBy w' none := t8
  refine ⟨?_, ⟨t8.os, t8.tape, t8.output, t8.size, fun k hk => t8.block k hk (by simp)⟩⟩
  match us, t2 with
  | [u], ⟨b, b', _, h1, h2⟩ =>
    have h1 : RT _ w' .st (F x) [u] ∧ b = [] := h1
    rw [RT] at h1
    have e1 : u = .string (F x) := by simpa using h1.1.1
    rcases t1 with ⟨u', e2, rfl⟩ | ⟨h3, _⟩
    · cases e2; rw [e1]
    · simp at h3
theorem fmt_any (n : Nat) (w : World) (hn : n < 100) : Calls Tryz.prog 101 #[.int .u64 (n : Int), .int .i64 10] w fun e w' => e = .returned (.string (dgB n)) ∧ Ext w w' := by
  refine (calls_st (Z := fun _ => False) (x := ((n : Int), (10 : Int), ())) (vs := [.int .u64 (n : Int), .int .i64 10]) fo_sfmt ?_ (fun g hg => hg.elim) ⟨?_, ?_, trivial⟩).mono ?_
  · show (0 : Int) ≤ (n : Int) ∧ (n : Int) < 100 ∧ (10 : Int) = 10
    omega
  · unfold RV
    rw [if_neg (by decide), RT]
    exact ⟨rfl, Int.le_trans (show IntKind.u64.min ≤ 0 by decide) (by omega), Int.le_trans (show (n : Int) ≤ 100 by omega) (by decide)⟩
  · unfold RV
    rw [if_neg (by decide), RT]
    exact ⟨rfl, show IntKind.i64.min ≤ 10 by decide, show (10 : Int) ≤ IntKind.i64.max by decide⟩
  · rintro e w' ⟨rfl, hx⟩
    exact ⟨rfl, hx⟩
theorem rev_one (A : Option Addr) (c : Nat) (w : World) : Calls Tryz.prog 103 #[.slice A 1 c] w fun e w' => (∃ v, e = .returned v) ∧ w' = w := by
  go_enter Tryz.func103, Tryz.ntmps103
  go_wp2_with fail
  go_loopw [2, 3] (fun i j wr => i = .int .i64 0 ∧ j = .int .i64 0 ∧ wr = w) (fun _ _ _ => 0)
  case atStart => exact ⟨rfl, rfl, rfl⟩
  case round =>
    obtain ⟨rfl, rfl, rfl⟩ := hrel
    go_wp2_with fail
    go_end0
    exact ⟨⟨_, rfl⟩, rfl⟩
theorem join_one (g c : Nat) (s p : ByteArray) (w : World) (hc : w.cell? ⟨g, 0, none⟩ = some (.string s)) : Calls Tryz.prog 104 #[.slice (some ⟨g, 0, none⟩) 1 c, .string p] w fun e w' => e = .returned (.string s) ∧ w' = w := by
  go_enter Tryz.func104, Tryz.ntmps104
  go_wp2_with fail
  go_ret
  exact ⟨rfl, rfl⟩
theorem info_str : (Tryz.prog.info? 9).map (fun i => (i.zero, i.size, i.bytes)) = some (some (.string ⟨#[]⟩), 1, 16) := by kernel_rfl
theorem wpList_appS {w : World} {ops : Array Oper} {rest : List Oper} {o : Oper} {a : Act} {Q : Exit → Act → World → Prop} (hgd : o.guard = none) (s x : Operand)
    (ho : o.op = .call { callee := .builtin .append, args := #[s, x], argTypes := #[61, 61] })
    (hs : a.eval s = .slice none 0 0) (b : Nat) (y : ByteArray) (hx : a.eval x = .slice (some ⟨b, 0, none⟩) 1 1) (hc : w.cell? ⟨b, 0, none⟩ = some (.string y))
    (h : ∀ g c' w', w'.cell? ⟨g, 0, none⟩ = some (.string y) → w.heap.size ≤ g → w.grownBy w' none → wpList Tryz.prog ops Q rest (a.put o.dst (.slice (some ⟨g, 0, none⟩) 1 c')) w') : wpList Tryz.prog ops Q (o :: rest) a w := by
  obtain ⟨i0, hi, hz0, hz1, hz2⟩ := info_parts info_str
  refine wpList_append_own w hgd s x 61 ho w.heap.size 9 i0 (.string ⟨#[]⟩) 1 16 Tryz.underlying61 hi hz0 hz1 hz2 rfl (by decide) _ _ _ hs (World.ownsRow_nil w w.heap.size _ 1) ⟨b, 0, none⟩ 1 1 [.string y] hx rfl
    (fun j u hu => ?_) (fun u hu => ?_) (by unfold maxLen; omega) (by omega) (Nat.le_refl _) ?_
  · match j, hu with
    | 0, hu => cases hu; exact hc
    | j + 1, hu => simp at hu
  · rw [List.mem_singleton] at hu
    subst hu
    rfl
  intro v' w' h2 h3 _
  have h4 := h2
  rcases h2.2 with ⟨_, h1⟩ | ⟨g, cap, cur, rfl, g1, g2, g3, g4, g5, g6⟩
  · simp at h1
  · exact h g cap w' (World.ownsRow.cells h4 (g := g) rfl 0 _ rfl) g1 h3
theorem wd_small {n : Nat} (h0 : n ≠ 0) (hn : n < 4294967296) : (wd n).length = 1 := by
  have h1 : (wd n).length ≤ 1 := wd_len_le n 1 (by show (n : Int) < 4294967296; omega)
  have h2 : (wd n).length ≠ 0 := fun e => h0 (wd_len_zero.1 e)
  omega
theorem nprint_small (A : Option Addr) (c n : Nat) (w : World) (ha : Rd w A c (wd n)) (hn : n < 100) :
    Calls Tryz.prog 69 #[.slice A (wd n).length c] w fun e w' => e = .returned (.tuple #[.string (dgB n), .int .i64 0]) ∧ Ext w w' := by
  have HA := Lib.hid ha
  have hl : (wd n).length ≤ 1 := wd_len_le n 1 (by show (n : Int) < 4294967296; omega)
  clear ha
  go_enter Tryz.func69, Tryz.ntmps69
  go_wp2_with fail
  refine (check_any A _ c w HA.out).mono ?_; rintro e w' ⟨rfl, rfl⟩
  rw [chk_wd n (by omega)]
  by_cases h0 : n = 0
  · subst h0
    have hb : (((wd 0).length : Int) == 0) = true := by rw [wd_zero]; rfl
    go_wp2_with fail
    go_ret2
    exact ⟨rfl, Ext.refl _⟩
  · have h1 := Lib.hid (wd_small h0 (by omega))
    have hb : (((wd n).length : Int) == 0) = false := beq_eq_false_iff_ne.2 (by have := h1.out; omega)
    go_wp2_with fail
    refine (clone_any A _ c _ HA.out (by omega)).mono ?_; rintro e w1 ⟨A1, c1, rfl, k1, k2⟩
    have H1 := Lib.hid k1
    have HX := Lib.hid k2
    clear k1 k2 hb
    go_wp2_with fail
    go_loopg [5, 6] 1 (fun k p x wr => (k = 1 ∧ p = .slice none 0 0 ∧ x = .slice A1 (wd n).length c1 ∧ Hid (Own wr w.heap.size A1 c1 (wd n)) ∧ Hid (Ext w wr)) ∨ (k = 0 ∧ ∃ g cp cx, p = .slice (some ⟨g, 0, none⟩) 1 cp ∧ x = .slice A1 0 cx ∧ Hid (wr.cell? ⟨g, 0, none⟩ = some (.string (dgB n))) ∧ Hid (Ext w wr)))
    case atStart => exact .inl ⟨rfl, rfl, rfl, H1.out, HX.out⟩
    case round =>
      clear H1 HX
      rcases hrel with ⟨hk, rfl, rfl, HO, HX⟩ | ⟨hk, g, cp, cx, rfl, rfl, HC, HX⟩
      · have hb : 0 < (wd n).length := by have := h1.out; omega
        go_wp2_with fail
        refine (small_any A1 n 1000000000 c1 w.heap.size _ HO.out (by omega) (by omega) (by omega) 0 n (Nat.div_eq_of_lt (by omega)) (Nat.mod_eq_of_lt (by omega))).mono ?_; rintro e w2 ⟨rfl, k1, k2⟩
        rw [wd_zero]
        have HX2 := Lib.hid (HX.out.grown k2 (fun b hb => by
          cases A1 with
          | none => cases hb
          | some a => cases hb; exact (HO.out.block).1))
        clear k1 k2
        go_wp2_with fail
        refine (fmt_any n _ hn).mono ?_; rintro e w3 ⟨rfl, hx⟩
        have HX3 := Lib.hid (HX2.out.trans hx)
        clear hx
        go_wp2_with (at_builtin; refine wpList_appS rfl _ _ rfl rfl _ (dgB n) rfl (by simp [go_sem]) ?_; intro g c' w4 hc hg hgr)
        have HX4 := Lib.hid ((HX3.out.alloc _).grownNone hgr)
        have HC := Lib.hid hc
        clear hc hgr
        go_roundg 0
        case measure => omega
        case rel => exact .inr ⟨rfl, g, c', c1, rfl, rfl, HC.out, HX4.out⟩
      · go_wp2_with fail
        refine (rev_one _ _ _).mono ?_; rintro e w5 ⟨⟨v, rfl⟩, rfl⟩
        go_wp2_with fail
        refine (join_one g cp (dgB n) _ _ HC.out).mono ?_; rintro e w6 ⟨rfl, rfl⟩
        go_wp2_with fail
        go_ret2
        exact ⟨rfl, HX.out⟩
def sp_aPrint : Spec := { q := .un, ps := [tW32], rs := [.st, .it .i64], fresh := true, pre := fun _ x => some (nrm x.1 ∧ toN x.1 < 100), post := fun _ x => ((), (dgB (toN x.1), 0, ())) }
theorem dgB_size : ∀ n, n < 100 → (dgB (n : Nat)).size ≤ 2 := by decide +kernel
theorem fo_aPrint : FnOk Tryz.prog 69 sp_aPrint := by
  refine ⟨callFunc_enter Tryz.func69 (by kernel_rfl) rfl, fun Z w gv vs y x hZ hv hp _ _ => ?_⟩
  obtain ⟨xs, u⟩ := x
  match vs, hv with
  | [u], ⟨h1, _⟩ =>
    obtain ⟨p1, p2⟩ : nrm xs ∧ toN xs < 100 := hp
    obtain ⟨n, rfl⟩ := nrm_ex p1
    rw [toN_wd] at p2
    obtain ⟨A, c, rfl, k1, _⟩ := rv_wd h1
    refine (nprint_small A c n w k1 p2).mono fun e w' ⟨e1, e2⟩ => ?_
    subst e1
    refine told_new (S := sp_aPrint) (r := (dgB (toN (wd n)), 0, ())) (us := [_, _]) (bs := []) rfl rfl (.inr ⟨by simp, rfl⟩) hZ ⟨[], [], rfl, ⟨?_, rfl⟩, [], [], rfl, rq_err (base := w.heap.size) Er.zero, rfl⟩ List.nodup_nil (fun g hg => by simp at hg) e2
    rw [RT, toN_wd]
    exact ⟨rfl, Nat.le_trans (dgB_size n p2) (by decide)⟩
end Go.Proofs.YtakaehdolpmelaaGreatDoor
namespace Go.Proofs.YtakaehdolpmelaaGreatDoor
open Go
def sm (q : Rat) : Bool := decide (q.num.natAbs < 4294967296) && decide (q.den < 4294967296)
theorem wd_one_len {n : Nat} (h : n < 4294967296) : (wd n).length ≤ 1 := wd_len_le n 1 (by show (n : Int) < 4294967296; omega)
theorem sm_lng {q : Rat} (h : sm q = true) : ¬ lng q = true := by
  unfold sm at h
  simp only [Bool.and_eq_true, decide_eq_true_eq] at h
  exact lng_of (Nat.le_trans (wd_one_len h.1) (by decide)) (Nat.le_trans (wd_one_len h.2) (by decide))
theorem fchk_s {q : Rat} (h : sm q = true) : fchk (enc q) = 0 := fchk_enc q (sm_lng h)
section
variable {p q r : Rat}
theorem fadd_s (h : (sm p && sm q && sm r) = true) (e : p + q = r) : fadd (enc p) (enc q) = (enc r, 0) := by
  simp only [Bool.and_eq_true] at h
  rw [fadd_enc (sm_lng h.1.1) (sm_lng h.1.2), e, tell_ok (sm_lng h.2)]
theorem fsub_s (h : (sm p && sm q && sm r) = true) (e : p - q = r) : fsub (enc p) (enc q) = (enc r, 0) := by
  simp only [Bool.and_eq_true] at h
  show both (enc p) (enc q) _ = _
  rw [both_ok (sm_lng h.1.1) (sm_lng h.1.2), e, tell_ok (sm_lng h.2)]
theorem fmul_s (h : (sm p && sm q && sm r) = true) (e : p * q = r) : fmul (enc p) (enc q) = (enc r, 0) := by
  simp only [Bool.and_eq_true] at h
  show both (enc p) (enc q) _ = _
  rw [both_ok (sm_lng h.1.1) (sm_lng h.1.2), e, tell_ok (sm_lng h.2)]
theorem fsmall_s {n d : Int} (h0 : d ≠ 0) (h : sm r = true) (e : mkRat (sg (decide (n < 0) != decide (d < 0)) n.natAbs) d.natAbs = r) : fsmall n d = (enc r, 0) := by
  unfold fsmall
  rw [if_neg h0, e, tell_ok (sm_lng h)]
end
def ge (p q : Rat) : Ga := ⟨enc p, enc q⟩
theorem gchk_s {p q : Rat} (h : (sm p && sm q) = true) : gchk (ge p q) = 0 := by
  simp only [Bool.and_eq_true] at h
  unfold gchk fchk2 ge
  rw [fchk_s h.1, fchk_s h.2]
  rfl
theorem gchk2_s {p q r s : Rat} (h : (sm p && sm q) = true) (k : (sm r && sm s) = true) : gchk2 (ge p q) (ge r s) = 0 := by
  unfold gchk2
  rw [gchk_s h, gchk_s k]
  rfl
section
variable {a b c d u v x y r i : Rat}
theorem gmul_s (h : (sm a && sm b && (sm c && sm d) && (sm u && sm v && (sm x && sm y)) && (sm r && sm i)) = true) (e1 : a * c = u) (e2 : b * d = v) (e3 : u - v = r) (e4 : a * d = x) (e5 : b * c = y) (e6 : x + y = i) : gmul (ge a b) (ge c d) = (ge r i, 0) := by
  simp only [Bool.and_eq_true] at h
  obtain ⟨⟨⟨⟨h1, h2⟩, h3, h4⟩, ⟨h5, h6⟩, h7, h8⟩, h9, h10⟩ := h
  have g : gchk2 (ge a b) (ge c d) = 0 := gchk2_s (by rw [h1, h2]; rfl) (by rw [h3, h4]; rfl)
  have f1 := fmul_s (p := a) (q := c) (r := u) (by rw [h1, h3, h5]; rfl) e1
  have f2 := fmul_s (p := b) (q := d) (r := v) (by rw [h2, h4, h6]; rfl) e2
  have f3 := fsub_s (p := u) (q := v) (r := r) (by rw [h5, h6, h9]; rfl) e3
  have f4 := fmul_s (p := a) (q := d) (r := x) (by rw [h1, h4, h7]; rfl) e4
  have f5 := fmul_s (p := b) (q := c) (r := y) (by rw [h2, h3, h8]; rfl) e5
  have f6 := fadd_s (p := x) (q := y) (r := i) (by rw [h7, h8, h10]; rfl) e6
  have p1 : wpair 0 (enc a) (enc c) (enc b) (enc d) true = (enc r, 0) := by
    rw [wpair_3 (by rw [f1]) (by rw [f2]), f1, f2, f3]
  have p2 : wpair 0 (enc a) (enc d) (enc b) (enc c) false = (enc i, 0) := by
    rw [wpair_4 (by rw [f4]) (by rw [f5]), f4, f5, f6]
  have q1 : wpair 0 (ge a b).re (ge c d).re (ge a b).im (ge c d).im true = (enc r, 0) := p1
  have q2 : wpair 0 (ge a b).re (ge c d).im (ge a b).im (ge c d).re false = (enc i, 0) := p2
  rw [gmul_4 g (by rw [q1]) (by rw [q2]), q1, q2]
  rfl
end
end Go.Proofs.YtakaehdolpmelaaGreatDoor
namespace Go.Proofs.YtakaehdolpmelaaGreatDoor
theorem fmul_enc {p q : Rat} (h : ¬ lng p = true) (k : ¬ lng q = true) : fmul (enc p) (enc q) = tell (p * q) := both_ok h k
theorem fquo_enc {p q : Rat} (h : ¬ lng p = true) (k : ¬ lng q = true) (n : q ≠ 0) : fquo (enc p) (enc q) = tell (p / q) := (both_ok h k).trans (if_neg n)
def szw (n : Nat) (q : Rat) : Prop := (wd q.num.natAbs).length ≤ n ∧ (wd q.den).length ≤ n
section
variable {m n : Nat} {p q a b c d : Rat}
theorem szw.lng (h : szw n q) (k : n ≤ 2048) : ¬ lng q = true := lng_of (Nat.le_trans h.1 k) (Nat.le_trans h.2 k)
theorem szw_mk {x : Int} {d : Nat} (h0 : d ≠ 0) (h1 : (wd x.natAbs).length ≤ n) (h2 : (wd d).length ≤ n) : szw n (mkRat x d) := by
  have e := enc_mk (decide (x < 0)) x.natAbs d h0
  have es : sg (decide (x < 0)) x.natAbs = x := by
    unfold sg
    by_cases h : x < 0
    · rw [if_pos (by simpa using h)]; omega
    · rw [if_neg (by simpa using h)]; omega
  rw [es] at e
  have e1 : wd (mkRat x d).num.natAbs = wd (x.natAbs / Nat.gcd x.natAbs d) := congrArg Fr.num e
  have e2 : wd (mkRat x d).den = wd (d / Nat.gcd x.natAbs d) := congrArg Fr.den e
  refine ⟨?_, ?_⟩
  · rw [e1]
    exact Nat.le_trans (wd_len_mono (Nat.div_le_self _ _)) h1
  · rw [e2]
    exact Nat.le_trans (wd_len_mono (Nat.div_le_self _ _)) h2
theorem szw.add (h : szw m p) (k : szw n q) : szw (m + n + 1) (p + q) := by
  rw [Rat.add_def']
  obtain ⟨h1, h2⟩ := h
  obtain ⟨k1, k2⟩ := k
  refine szw_mk (Nat.mul_ne_zero p.den_nz q.den_nz) ?_ ?_
  · have a1 := wd_len_mono (Int.natAbs_add_le (p.num * q.den) (q.num * p.den))
    have a2 := wd_len_add (p.num * q.den).natAbs (q.num * p.den).natAbs
    rw [Int.natAbs_mul, Int.natAbs_mul, Int.natAbs_natCast, Int.natAbs_natCast] at a1 a2
    have a3 := wd_len_mul p.num.natAbs q.den
    have a4 := wd_len_mul q.num.natAbs p.den
    omega
  · have := wd_len_mul p.den q.den
    omega
theorem szw.mul (h : szw m p) (k : szw n q) : szw (m + n) (p * q) := by
  rw [Rat.mul_def']
  obtain ⟨h1, h2⟩ := h
  obtain ⟨k1, k2⟩ := k
  refine szw_mk (Nat.mul_ne_zero p.den_nz q.den_nz) ?_ ?_
  · rw [Int.natAbs_mul]
    have := wd_len_mul p.num.natAbs q.num.natAbs
    omega
  · have := wd_len_mul p.den q.den
    omega
theorem szw.neg (h : szw m p) : szw m (-p) := by
  unfold szw at h ⊢
  simpa using h
theorem szw.sub (h : szw m p) (k : szw n q) : szw (m + n + 1) (p - q) := by
  rw [Rat.sub_eq_add_neg]
  exact h.add k.neg
theorem szw.inv (h : szw m p) (h0 : p ≠ 0) : szw m p⁻¹ := by
  obtain ⟨h1, h2⟩ := h
  have n0 : p.num ≠ 0 := fun e => h0 (Rat.num_eq_zero.1 e)
  refine ⟨?_, ?_⟩
  · rw [Rat.num_inv, Int.natAbs_mul, Int.natAbs_natCast, Int.natAbs_sign_of_ne_zero n0, Nat.one_mul]
    exact h2
  · rw [Rat.den_inv, if_neg n0]
    exact h1
theorem szw.div (h : szw m p) (k : szw n q) (h0 : q ≠ 0) : szw (m + n) (p / q) := by
  rw [Rat.div_def]
  exact h.mul (k.inv h0)
theorem ge_chk (h : szw m a) (k : szw m b) (l : m ≤ 2048) : gchk (ge a b) = 0 := gchk_enc (h.lng l) (k.lng l)
theorem ge_chk2 (h1 : szw m a) (h2 : szw m b) (k1 : szw n c) (k2 : szw n d) (l : m ≤ 2048) (l' : n ≤ 2048) : gchk2 (ge a b) (ge c d) = 0 := gchk2_mk (ge_chk h1 h2 l) (ge_chk k1 k2 l')
theorem gadd_w (h1 : szw m a) (h2 : szw m b) (k1 : szw n c) (k2 : szw n d) (l : m + n + 1 ≤ 2048) : gadd (ge a b) (ge c d) = (ge (a + c) (b + d), 0) := by
  have g := ge_chk2 h1 h2 k1 k2 (by omega) (by omega)
  have f1 : fadd (ge a b).re (ge c d).re = (enc (a + c), 0) := (fadd_enc (h1.lng (by omega)) (k1.lng (by omega))).trans (tell_ok ((h1.add k1).lng l))
  have f2 : fadd (ge a b).im (ge c d).im = (enc (b + d), 0) := (fadd_enc (h2.lng (by omega)) (k2.lng (by omega))).trans (tell_ok ((h2.add k2).lng l))
  rw [gadd_4 g (by rw [f1]) (by rw [f2]), f1, f2]
  rfl
theorem gsub_w (h1 : szw m a) (h2 : szw m b) (k1 : szw n c) (k2 : szw n d) (l : m + n + 1 ≤ 2048) : gsub (ge a b) (ge c d) = (ge (a - c) (b - d), 0) := by
  have g := ge_chk2 h1 h2 k1 k2 (by omega) (by omega)
  have f1 : fsub (ge a b).re (ge c d).re = (enc (a - c), 0) := (fsub_enc (h1.lng (by omega)) (k1.lng (by omega))).trans (tell_ok ((h1.sub k1).lng l))
  have f2 : fsub (ge a b).im (ge c d).im = (enc (b - d), 0) := (fsub_enc (h2.lng (by omega)) (k2.lng (by omega))).trans (tell_ok ((h2.sub k2).lng l))
  simp [gsub, wsub, stp, gtell, g, f1, f2]
  rfl
theorem wpair_w {e f : Rat} {l : Bool} (h1 : szw m a) (h2 : szw n b) (k1 : szw m e) (k2 : szw n f) (s : (m + n) + (m + n) + 1 ≤ 2048) : wpair 0 (enc a) (enc b) (enc e) (enc f) l = (enc (if l = true then a * b - e * f else a * b + e * f), 0) := by
  have m1 : fmul (enc a) (enc b) = (enc (a * b), 0) := (fmul_enc (h1.lng (by omega)) (h2.lng (by omega))).trans (tell_ok ((h1.mul h2).lng (by omega)))
  have m2 : fmul (enc e) (enc f) = (enc (e * f), 0) := (fmul_enc (k1.lng (by omega)) (k2.lng (by omega))).trans (tell_ok ((k1.mul k2).lng (by omega)))
  cases l with
  | true =>
    rw [wpair_3 (by rw [m1]) (by rw [m2]), m1, m2, if_pos rfl]
    exact (fsub_enc ((h1.mul h2).lng (by omega)) ((k1.mul k2).lng (by omega))).trans (tell_ok (((h1.mul h2).sub (k1.mul k2)).lng s))
  | false =>
    rw [wpair_4 (by rw [m1]) (by rw [m2]), m1, m2, if_neg (by decide)]
    exact (fadd_enc ((h1.mul h2).lng (by omega)) ((k1.mul k2).lng (by omega))).trans (tell_ok (((h1.mul h2).add (k1.mul k2)).lng s))
theorem gmul_w (h1 : szw m a) (h2 : szw m b) (k1 : szw n c) (k2 : szw n d) (l : (m + n) + (m + n) + 1 ≤ 2048) : gmul (ge a b) (ge c d) = (ge (a * c - b * d) (a * d + b * c), 0) := by
  have g := ge_chk2 h1 h2 k1 k2 (by omega) (by omega)
  have q1 : wpair 0 (ge a b).re (ge c d).re (ge a b).im (ge c d).im true = (enc (a * c - b * d), 0) := wpair_w h1 k1 h2 k2 l
  have q2 : wpair 0 (ge a b).re (ge c d).im (ge a b).im (ge c d).re false = (enc (a * d + b * c), 0) := wpair_w h1 k2 h2 k1 l
  rw [gmul_4 g (by rw [q1]) (by rw [q2]), q1, q2]
  rfl
theorem gnorm_w (h1 : szw m a) (h2 : szw m b) (l : (m + m) + (m + m) + 1 ≤ 2048) : gnorm (ge a b) = (enc (a * a + b * b), 0) := by
  rw [gnorm_2 (ge_chk h1 h2 (by omega))]
  exact wpair_w (l := false) h1 h1 h2 h2 l
theorem gconj_w (h1 : szw m a) (h2 : szw m b) (l : m ≤ 2048) : gconj (ge a b) = (ge a (-b), 0) := gconj_enc (h1.lng l) (h2.lng l)
theorem gsame_w (h1 : szw m a) (h2 : szw m b) (l : m ≤ 2048) (e1 : a = c) (e2 : b = d) : gsame (ge a b) (ge c d) = true := by
  subst e1 e2
  unfold gsame
  rw [decide_eq_true ⟨ge_chk2 h1 h2 h1 h2 l l, rfl⟩]
theorem enc_num0 {q : Rat} (h : (enc q).num.length = 0) : q = 0 := by
  have : q.num.natAbs = 0 := wd_len_zero.1 h
  exact Rat.num_eq_zero.1 (by omega)
theorem gzero_w (h1 : szw m a) (h2 : szw m b) (l : m ≤ 2048) : gzero (ge a b) = decide (a = 0 ∧ b = 0) := by
  unfold gzero
  refine decide_eq_decide.2 ⟨fun h => ⟨enc_num0 h.2.1, enc_num0 h.2.2⟩, fun h => ?_⟩
  obtain ⟨rfl, rfl⟩ := h
  exact ⟨ge_chk h1 h2 l, by decide +kernel, by decide +kernel⟩
theorem sq_nonneg (x : Rat) : 0 ≤ x * x := by
  rcases Rat.le_total (a := 0) (b := x) with h | h
  · exact Rat.mul_nonneg h h
  · have : 0 ≤ -x := by grind
    have := Rat.mul_nonneg this this
    grind
theorem norm_zero {x y : Rat} (h : x * x + y * y = 0) : x = 0 ∧ y = 0 := by
  have h1 := sq_nonneg x
  have h2 := sq_nonneg y
  have e1 : x * x = 0 := by grind
  have e2 : y * y = 0 := by grind
  exact ⟨by rcases Rat.mul_eq_zero.1 e1 with e | e <;> exact e, by rcases Rat.mul_eq_zero.1 e2 with e | e <;> exact e⟩
theorem gquo_w (h1 : szw m a) (h2 : szw m b) (k1 : szw n c) (k2 : szw n d) (l : (m + n) + (m + n) + 1 + ((n + n) + (n + n) + 1) ≤ 2048) (hz : ¬ (c = 0 ∧ d = 0)) : gquo (ge a b) (ge c d) = (ge ((a * c + b * d) / (c * c + d * d)) ((b * c - a * d) / (c * c + d * d)), 0) := by
  have g := ge_chk2 h1 h2 k1 k2 (by omega) (by omega)
  have z : gzero (ge c d) = false := by rw [gzero_w k1 k2 (by omega), decide_eq_false hz]
  have no := gnorm_w k1 k2 (by omega)
  have cj := gconj_w k1 k2 (by omega)
  have n0 : c * c + d * d ≠ 0 := fun e => hz (norm_zero e)
  have pr := gmul_w h1 h2 k1 k2.neg (by omega)
  have wb : (ge c d).Wf := ⟨enc_wf _, enc_wf _⟩
  have sn : szw ((n + n) + (n + n) + 1) (c * c + d * d) := (k1.mul k1).add (k2.mul k2)
  have s1 : szw ((m + n) + (m + n) + 1) (a * c - b * -d) := (h1.mul k1).sub (h2.mul k2.neg)
  have s2 : szw ((m + n) + (m + n) + 1) (a * -d + b * c) := (h1.mul k2.neg).add (h2.mul k1)
  have pr' : gmul (ge a b) (gconj (ge c d)).1 = (ge (a * c - b * -d) (a * -d + b * c), 0) := by rw [cj]; exact pr
  have f1 : fquo (gmul (ge a b) (gconj (ge c d)).1).1.re (gnorm (ge c d)).1 = (enc ((a * c + b * d) / (c * c + d * d)), 0) := by
    rw [pr', no]
    rw [show a * c + b * d = a * c - b * -d by grind]
    exact (fquo_enc (s1.lng (by omega)) (sn.lng (by omega)) n0).trans (tell_ok ((s1.div sn n0).lng l))
  have f2 : fquo (gmul (ge a b) (gconj (ge c d)).1).1.im (gnorm (ge c d)).1 = (enc ((b * c - a * d) / (c * c + d * d)), 0) := by
    rw [pr', no]
    rw [show b * c - a * d = a * -d + b * c by grind]
    exact (fquo_enc (s2.lng (by omega)) (sn.lng (by omega)) n0).trans (tell_ok ((s2.div sn n0).lng l))
  rw [gquo_7 g z (by rw [no]) wb (by rw [pr']) (by rw [f1]), f1, f2]
  rfl
theorem ge_of {g : Ga} (wg : g.Wf) (h : gchk g = 0) (h1 : g.re.num.length ≤ n) (h2 : g.re.den.length ≤ n) (h3 : g.im.num.length ≤ n) (h4 : g.im.den.length ≤ n) : ∃ p q, g = ge p q ∧ szw n p ∧ szw n q := by
  obtain ⟨p, q, rfl, _, _⟩ := gchk_ok wg h
  exact ⟨p, q, rfl, ⟨h1, h2⟩, ⟨h3, h4⟩⟩
end
end Go.Proofs.YtakaehdolpmelaaGreatDoor
namespace Go.Proofs.YtakaehdolpmelaaGreatDoor
open Go Go.RowKit
def p_sure (p : Prim) : Prim := fun az O n => match p az O n with
  | some (c, G) => match G.ef with
    | ⟨.c (.sc (.bool b)), ob, k⟩ => some (some (oc c (b = true)), .e ⟨.c .tt, ob, k⟩)
    | _ => none
  | none => none
theorem Sim.tt {gp : Option Nat} {Z0 : Nat → Prop} {w0 w : World} {N : Nat} {d : Option Nat} {D : Nat → Prop} {c : Cf} {T : Nat → Option AV} {O : Store} {tm : Array Value} (h : Sim gp Z0 w0 N D c (upT T d (.c (.sc (.bool true)))) O tm w) : Sim gp Z0 w0 N D c (upT T d (.c .tt)) O tm w := by
  cases d with
  | none => exact h
  | some d =>
    exact { h with
      tmp := fun t v hv => by
        have hv : (bif Nat.beq d t then some (.c .tt) else T t) = some v := hv
        cases e : Nat.beq d t with
        | true =>
          rw [e] at hv
          cases hv
          obtain ⟨u, h1, h2⟩ := h.tmp t (.c (.sc (.bool true))) (by show (bif Nat.beq d t then _ else _) = _; rw [e]; rfl)
          exact ⟨u, h1, h2.1⟩
        | false =>
          rw [e] at hv
          exact h.tmp t v (by show (bif Nat.beq d t then _ else _) = _; rw [e]; exact hv) }
theorem pr_sure {P : Program} {f : Nat} {p : Prim} (hp : PrimOk P f p) : PrimOk P f (p_sure p) := by
  refine ⟨hp.1, fun gp Z0 w0 N D c T O O' a w xs vs n cd G hS hO hl hv hG hD hc => ?_⟩
  unfold p_sure at hG
  cases h1 : p xs O' n with
  | none => rw [h1] at hG; cases hG
  | some q =>
    obtain ⟨c1, G1⟩ := q
    rw [h1] at hG
    dsimp only at hG
    split at hG
    · rename_i b ob k hef
      cases hG
      have hc : oc c1 (b = true) := hc
      have hb : b = true ∧ holds c1 := by
        cases c1 with
        | none => exact ⟨hc, trivial⟩
        | some X => exact ⟨hc.2, hc.1⟩
      obtain ⟨rfl, hc1⟩ := hb
      have := hp.2 gp Z0 w0 N D c T O O' a w xs vs n c1 G1 hS hO hl hv h1 (by rw [hef]; exact hD) hc1
      rw [hef] at this
      refine this.mono ?_
      rintro e w' ⟨v, c', rfl, h2⟩
      exact ⟨v, c', rfl, fun d hd => Sim.tt (h2 d hd)⟩
    · cases hG
end Go.Proofs.YtakaehdolpmelaaGreatDoor
