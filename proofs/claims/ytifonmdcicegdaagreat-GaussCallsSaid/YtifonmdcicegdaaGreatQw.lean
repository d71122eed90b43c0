/- Texts of this claim, joined: B9 A26 Y2 U3 Y4 B10 B11 Y5. -/
import Derived.Deep.AppendLies
import Derived.Test.YtifonmdcicegdaaGreatQv
namespace Go.Proofs.YtifonmdcicegdaaGreat
open Go Go.RowKit

noncomputable def sp_kSameWords : Spec := { q := .un, ps := [tW32, tW32], rs := [.bo], fresh := true, pre := fun _ _ => none, post := fun _ x => ((), (decide (x.1 = x.2.1), ())) }
noncomputable def iv_kSameWords (y : El sp_kSameWords.q) (x : Els sp_kSameWords.ps) : Nat → Option Inv := fun k => if k = 0 then some { X := Nat, tm := fun i => [(0, .c (.sl (.it .u32) x.1)), (1, .c (.sl (.it .u32) x.2.1)), (5, .c (.sc (.int .i64 i)))], ob := fun _ => [], n := 1, I := fun i => i ≤ x.1.length ∧ x.1.length = x.2.1.length ∧ x.1.take i = x.2.1.take i, μ := fun i => x.1.length - i } else none
noncomputable abbrev c_kSameWords : Cfg := cfgS (Tryz.f160).ntmps false []
set_option maxRecDepth 100000 in
theorem w_kSameWords (y : El sp_kSameWords.q) (x : Els sp_kSameWords.ps) : aw c_kSameWords (iv_kSameWords y x) (codeOf Tryz.f160) 0 (retQ c_kSameWords sp_kSameWords (Tryz.f160).results.toList y x) (startT sp_kSameWords x) (startO sp_kSameWords y) 1 =
  ((((↑(List.length x.fst) : Int) != (↑(List.length x.snd.fst) : Int)) = true → (false, ()) = (decide (x.fst = x.snd.fst), ())) ∧ (((↑(List.length x.fst) : Int) != (↑(List.length x.snd.fst) : Int)) = false → (∃ (x_1 : Nat), x.fst = x.fst ∧ x.snd.fst = x.snd.fst ∧ (↑x_1 : Int) = (0 : Int) ∧ x_1 ≤ List.length x.fst ∧ List.length x.fst = List.length x.snd.fst ∧ List.take x_1 x.fst = List.take x_1 x.snd.fst) ∧ ∀ (x_1 : Nat), x_1 ≤ List.length x.fst ∧ List.length x.fst = List.length x.snd.fst ∧ List.take x_1 x.fst = List.take x_1 x.snd.fst → (decide ((↑x_1 : Int) < (↑(List.length x.fst) : Int)) = true → ((0 : Int) ≤ (↑x_1 : Int) ∧ (↑x_1 : Int) < (↑(List.length x.fst) : Int)) ∧ ((0 : Int) ≤ (↑x_1 : Int) ∧ (↑x_1 : Int) < (↑(List.length x.snd.fst) : Int)) ∧ ((List.getD x.fst (↑x_1 : Int).toNat (dfl (Ty.it IntKind.u32)) != List.getD x.snd.fst (↑x_1 : Int).toNat (dfl (Ty.it IntKind.u32))) = true → (false, ()) = (decide (x.fst = x.snd.fst), ())) ∧ ((List.getD x.fst (↑x_1 : Int).toNat (dfl (Ty.it IntKind.u32)) != List.getD x.snd.fst (↑x_1 : Int).toNat (dfl (Ty.it IntKind.u32))) = false → ((-9223372036854775808 : Int) ≤ (↑x_1 : Int) + (1 : Int) ∧ (↑x_1 : Int) + (1 : Int) ≤ (9223372036854775807 : Int)) ∧ ∃ (x' : Nat), x.fst = x.fst ∧ x.snd.fst = x.snd.fst ∧ (↑x' : Int) = (↑x_1 : Int) + (1 : Int) ∧ (x' ≤ List.length x.fst ∧ List.length x.fst = List.length x.snd.fst ∧ List.take x' x.fst = List.take x' x.snd.fst) ∧ List.length x.fst - x' < List.length x.fst - x_1)) ∧ (decide ((↑x_1 : Int) < (↑(List.length x.fst) : Int)) = false → (true, ()) = (decide (x.fst = x.snd.fst), ())))) := by kernel_rfl
theorem m_kSameWords (y : El (.un)) (x : Els [tW32, tW32]) (h2 : wfE (.un) y) (h3 : wfEs [tW32, tW32] x) :
  ((((↑(List.length x.fst) : Int) != (↑(List.length x.snd.fst) : Int)) = true → (false, ()) = (decide (x.fst = x.snd.fst), ())) ∧ (((↑(List.length x.fst) : Int) != (↑(List.length x.snd.fst) : Int)) = false → (∃ (x_1 : Nat), x.fst = x.fst ∧ x.snd.fst = x.snd.fst ∧ (↑x_1 : Int) = (0 : Int) ∧ x_1 ≤ List.length x.fst ∧ List.length x.fst = List.length x.snd.fst ∧ List.take x_1 x.fst = List.take x_1 x.snd.fst) ∧ ∀ (x_1 : Nat), x_1 ≤ List.length x.fst ∧ List.length x.fst = List.length x.snd.fst ∧ List.take x_1 x.fst = List.take x_1 x.snd.fst → (decide ((↑x_1 : Int) < (↑(List.length x.fst) : Int)) = true → ((0 : Int) ≤ (↑x_1 : Int) ∧ (↑x_1 : Int) < (↑(List.length x.fst) : Int)) ∧ ((0 : Int) ≤ (↑x_1 : Int) ∧ (↑x_1 : Int) < (↑(List.length x.snd.fst) : Int)) ∧ ((List.getD x.fst (↑x_1 : Int).toNat (dfl (Ty.it IntKind.u32)) != List.getD x.snd.fst (↑x_1 : Int).toNat (dfl (Ty.it IntKind.u32))) = true → (false, ()) = (decide (x.fst = x.snd.fst), ())) ∧ ((List.getD x.fst (↑x_1 : Int).toNat (dfl (Ty.it IntKind.u32)) != List.getD x.snd.fst (↑x_1 : Int).toNat (dfl (Ty.it IntKind.u32))) = false → ((-9223372036854775808 : Int) ≤ (↑x_1 : Int) + (1 : Int) ∧ (↑x_1 : Int) + (1 : Int) ≤ (9223372036854775807 : Int)) ∧ ∃ (x' : Nat), x.fst = x.fst ∧ x.snd.fst = x.snd.fst ∧ (↑x' : Int) = (↑x_1 : Int) + (1 : Int) ∧ (x' ≤ List.length x.fst ∧ List.length x.fst = List.length x.snd.fst ∧ List.take x' x.fst = List.take x' x.snd.fst) ∧ List.length x.fst - x' < List.length x.fst - x_1)) ∧ (decide ((↑x_1 : Int) < (↑(List.length x.fst) : Int)) = false → (true, ()) = (decide (x.fst = x.snd.fst), ())))) := by
  have hL : x.1.length ≤ 9223372036854775807 := h3.1.1
  refine ⟨fun h => ?_, fun h => ⟨⟨0, rfl, rfl, rfl, Nat.zero_le _, by simpa [Int.ofNat_inj] using h, rfl⟩, fun i hi => ⟨fun hl => ?_, fun hl => ?_⟩⟩⟩
  · have : x.1 ≠ x.2.1 := fun e => by rw [e] at h; simp at h
    rw [decide_eq_false this]
  · obtain ⟨h0, h1, h2⟩ := hi
    have hl := of_decide_eq_true hl
    have a1 : i < x.1.length := by omega
    have a2 : i < x.2.1.length := by omega
    have g1 : x.1.getD ((i : Int)).toNat (dfl (Ty.it IntKind.u32)) = x.1[i] := by
      rw [Int.toNat_natCast, List.getD_eq_getElem?_getD, List.getElem?_eq_getElem a1]; rfl
    have g2 : x.2.1.getD ((i : Int)).toNat (dfl (Ty.it IntKind.u32)) = x.2.1[i] := by
      rw [Int.toNat_natCast, List.getD_eq_getElem?_getD, List.getElem?_eq_getElem a2]; rfl
    rw [g1, g2]
    refine ⟨⟨by omega, hl⟩, ⟨by omega, by omega⟩, fun k => ?_, fun k => ⟨by omega, i + 1, rfl, rfl, rfl, ⟨a1, h1, ?_⟩, by omega⟩⟩
    · have k := bne_iff_ne.1 k
      have : x.1 ≠ x.2.1 := fun e => k (by congr 1)
      rw [decide_eq_false this]
    · have k : x.1[i] = x.2.1[i] := by simpa using k
      rw [List.take_add_one, List.take_add_one, h2, List.getElem?_eq_getElem a1, List.getElem?_eq_getElem a2, k]
  · obtain ⟨h0, h1, h2⟩ := hi
    have hl := of_decide_eq_false hl
    rw [List.take_of_length_le (by omega), List.take_of_length_le (by omega)] at h2
    rw [decide_eq_true h2]
set_option maxRecDepth 100000 in
theorem fo_kSameWords : FnOk Tryz.prog 160 sp_kSameWords := fnOk_of (C := c_kSameWords) iv_kSameWords Tryz.func160 rfl (by kernel_rfl) tys_ok prims_nil mixed_ (Nat.le_refl _) rfl fun y x h1 h2 h3 h4 =>
  Eq.mpr (w_kSameWords y x) (m_kSameWords y x h2 h3)
noncomputable def sp_kSameRatio : Spec := { q := .un, ps := [tR, tR], rs := [.bo], fresh := true, pre := fun _ _ => none, post := fun _ x => ((), (decide (toFr x.1 = toFr x.2.1), ())) }
noncomputable def iv_kSameRatio (y : El sp_kSameRatio.q) (x : Els sp_kSameRatio.ps) : Nat → Option Inv := fun _ => none
noncomputable abbrev c_kSameRatio : Cfg := cfgS (Tryz.f55).ntmps false [(160, sp_kSameWords.prim)]
set_option maxRecDepth 100000 in
theorem w_kSameRatio (y : El sp_kSameRatio.q) (x : Els sp_kSameRatio.ps) : aw c_kSameRatio (iv_kSameRatio y x) (codeOf Tryz.f55) 0 (retQ c_kSameRatio sp_kSameRatio (Tryz.f55).results.toList y x) (startT sp_kSameRatio x) (startO sp_kSameRatio y) 1 =
  (((x.fst.fst == x.snd.fst.fst) = true → ∀ (r : El Ty.un × Els [Ty.bo]), r = ((), decide (x.fst.snd.fst = x.snd.fst.snd.fst), ()) → (r.snd.fst = true → ∀ (r : El Ty.un × Els [Ty.bo]), r = ((), decide (x.fst.snd.snd.fst = x.snd.fst.snd.snd.fst), ()) → r.snd = (decide (toFr x.fst = toFr x.snd.fst), ())) ∧ (r.snd.fst = false → (false, ()) = (decide (toFr x.fst = toFr x.snd.fst), ()))) ∧ ((x.fst.fst == x.snd.fst.fst) = false → (false, ()) = (decide (toFr x.fst = toFr x.snd.fst), ()))) := by kernel_rfl
theorem m_kSameRatio (y : El (.un)) (x : Els [tR, tR]) (h2 : wfE (.un) y) (h3 : wfEs [tR, tR] x) :
  (((x.fst.fst == x.snd.fst.fst) = true → ∀ (r : El Ty.un × Els [Ty.bo]), r = ((), decide (x.fst.snd.fst = x.snd.fst.snd.fst), ()) → (r.snd.fst = true → ∀ (r : El Ty.un × Els [Ty.bo]), r = ((), decide (x.fst.snd.snd.fst = x.snd.fst.snd.snd.fst), ()) → r.snd = (decide (toFr x.fst = toFr x.snd.fst), ())) ∧ (r.snd.fst = false → (false, ()) = (decide (toFr x.fst = toFr x.snd.fst), ()))) ∧ ((x.fst.fst == x.snd.fst.fst) = false → (false, ()) = (decide (toFr x.fst = toFr x.snd.fst), ()))) := by
  obtain ⟨⟨s, a, b, _⟩, ⟨t, c, d, _⟩, _⟩ := x
  refine ⟨fun h => ?_, fun h => ?_⟩
  · rintro _ rfl
    refine ⟨fun k => ?_, fun k => ?_⟩
    · rintro _ rfl
      have hs : s = t := by simpa using h
      have hk : a = c := by simpa using k
      subst hs
      subst hk
      simp [toFr]
    · have k : a ≠ c := by simpa using k
      simp [toFr, k]
  · have h : s ≠ t := by simpa using h
    simp [toFr, h]
set_option maxRecDepth 100000 in
theorem fo_kSameRatio : FnOk Tryz.prog 55 sp_kSameRatio := fnOk_of (C := c_kSameRatio) iv_kSameRatio Tryz.func55 rfl (by kernel_rfl) tys_ok (prims_cons (spec_prim fo_kSameWords) prims_nil) mixed_ (Nat.le_refl _) rfl fun y x h1 h2 h3 h4 =>
  Eq.mpr (w_kSameRatio y x) (m_kSameRatio y x h2 h3)
noncomputable def sp_kSameGauss : Spec := { q := .un, ps := [tG, tG], rs := [.bo], fresh := true, pre := fun _ _ => none, post := fun _ x => ((), (decide (toGa x.1 = toGa x.2.1), ())) }
noncomputable def iv_kSameGauss (y : El sp_kSameGauss.q) (x : Els sp_kSameGauss.ps) : Nat → Option Inv := fun _ => none
noncomputable abbrev c_kSameGauss : Cfg := cfgS (Tryz.f89).ntmps false [(55, sp_kSameRatio.prim)]
set_option maxRecDepth 100000 in
theorem w_kSameGauss (y : El sp_kSameGauss.q) (x : Els sp_kSameGauss.ps) : aw c_kSameGauss (iv_kSameGauss y x) (codeOf Tryz.f89) 0 (retQ c_kSameGauss sp_kSameGauss (Tryz.f89).results.toList y x) (startT sp_kSameGauss x) (startO sp_kSameGauss y) 1 =
  (∀ (r : El Ty.un × Els [Ty.bo]), r = ((), decide (toFr x.fst.fst = toFr x.snd.fst.fst), ()) → (r.snd.fst = true → ∀ (r : El Ty.un × Els [Ty.bo]), r = ((), decide (toFr x.fst.snd.fst = toFr x.snd.fst.snd.fst), ()) → r.snd = (decide (toGa x.fst = toGa x.snd.fst), ())) ∧ (r.snd.fst = false → (false, ()) = (decide (toGa x.fst = toGa x.snd.fst), ()))) := by kernel_rfl
theorem m_kSameGauss (y : El (.un)) (x : Els [tG, tG]) (h2 : wfE (.un) y) (h3 : wfEs [tG, tG] x) :
  (∀ (r : El Ty.un × Els [Ty.bo]), r = ((), decide (toFr x.fst.fst = toFr x.snd.fst.fst), ()) → (r.snd.fst = true → ∀ (r : El Ty.un × Els [Ty.bo]), r = ((), decide (toFr x.fst.snd.fst = toFr x.snd.fst.snd.fst), ()) → r.snd = (decide (toGa x.fst = toGa x.snd.fst), ())) ∧ (r.snd.fst = false → (false, ()) = (decide (toGa x.fst = toGa x.snd.fst), ()))) := by
  rintro _ rfl
  refine ⟨fun k => ?_, fun k => ?_⟩
  · rintro _ rfl
    simp_all
  · simp_all
set_option maxRecDepth 100000 in
theorem fo_kSameGauss : FnOk Tryz.prog 89 sp_kSameGauss := fnOk_of (C := c_kSameGauss) iv_kSameGauss Tryz.func89 rfl (by kernel_rfl) tys_ok (prims_cons (spec_prim fo_kSameRatio) prims_nil) mixed_ (Nat.le_refl _) rfl fun y x h1 h2 h3 h4 =>
  Eq.mpr (w_kSameGauss y x) (m_kSameGauss y x h2 h3)
def smallW (l : List Int) (m : Int) : Bool := decide ((l.length : Int) ≤ m) || decide (2048 < l.length ∧ l.length < 2057)
noncomputable def sp_lsmall : Spec := { q := .un, ps := [tW32, .it .i64], rs := [.bo], fresh := true, pre := fun _ _ => none, post := fun _ x => ((), (smallW x.1 x.2.1, ())) }
noncomputable def iv_lsmall (y : El sp_lsmall.q) (x : Els sp_lsmall.ps) : Nat → Option Inv := fun _ => none
noncomputable abbrev c_lsmall : Cfg := cfgS (Tryz.f172).ntmps false []
set_option maxRecDepth 100000 in
theorem w_lsmall (y : El sp_lsmall.q) (x : Els sp_lsmall.ps) : aw c_lsmall (iv_lsmall y x) (codeOf Tryz.f172) 0 (retQ c_lsmall sp_lsmall (Tryz.f172).results.toList y x) (startT sp_lsmall x) (startO sp_lsmall y) 1 =
  ((decide ((↑(List.length x.fst) : Int) ≤ x.snd.fst) = true → (true, ()) = (smallW x.fst x.snd.fst, ())) ∧ (decide ((↑(List.length x.fst) : Int) ≤ x.snd.fst) = false → (decide ((↑(List.length x.fst) : Int) > (2048 : Int)) = true → (decide ((↑(List.length x.fst) : Int) < (2057 : Int)), ()) = (smallW x.fst x.snd.fst, ())) ∧ (decide ((↑(List.length x.fst) : Int) > (2048 : Int)) = false → (false, ()) = (smallW x.fst x.snd.fst, ())))) := by kernel_rfl
theorem m_lsmall (y : El (.un)) (x : Els [tW32, .it .i64]) (h2 : wfE (.un) y) (h3 : wfEs [tW32, .it .i64] x) :
  ((decide ((↑(List.length x.fst) : Int) ≤ x.snd.fst) = true → (true, ()) = (smallW x.fst x.snd.fst, ())) ∧ (decide ((↑(List.length x.fst) : Int) ≤ x.snd.fst) = false → (decide ((↑(List.length x.fst) : Int) > (2048 : Int)) = true → (decide ((↑(List.length x.fst) : Int) < (2057 : Int)), ()) = (smallW x.fst x.snd.fst, ())) ∧ (decide ((↑(List.length x.fst) : Int) > (2048 : Int)) = false → (false, ()) = (smallW x.fst x.snd.fst, ())))) := by
  unfold smallW
  refine ⟨fun h => ?_, fun h => ⟨fun k => ?_, fun k => ?_⟩⟩
  · rw [h]; rfl
  · rw [h]
    have k := of_decide_eq_true k
    by_cases m : x.1.length < 2057
    · rw [decide_eq_true (by omega), decide_eq_true (by omega)]; rfl
    · rw [decide_eq_false (by omega), decide_eq_false (by omega)]; rfl
  · rw [h]
    have k := of_decide_eq_false k
    rw [decide_eq_false (by omega)]; rfl
set_option maxRecDepth 100000 in
theorem fo_lsmall : FnOk Tryz.prog 172 sp_lsmall := fnOk_of (C := c_lsmall) iv_lsmall Tryz.func172 rfl (by kernel_rfl) tys_ok prims_nil mixed_ (Nat.le_refl _) rfl fun y x h1 h2 h3 h4 =>
  Eq.mpr (w_lsmall y x) (m_lsmall y x h2 h3)
noncomputable def sp_lSmall : Spec := { q := .un, ps := [tR, .it .i64], rs := [.bo], fresh := true, pre := fun _ _ => none, post := fun _ x => ((), (smallW x.1.2.1 x.2.1 && smallW x.1.2.2.1 x.2.1, ())) }
noncomputable def iv_lSmall (y : El sp_lSmall.q) (x : Els sp_lSmall.ps) : Nat → Option Inv := fun _ => none
noncomputable abbrev c_lSmall : Cfg := cfgS (Tryz.f58).ntmps false [(172, sp_lsmall.prim)]
set_option maxRecDepth 100000 in
theorem w_lSmall (y : El sp_lSmall.q) (x : Els sp_lSmall.ps) : aw c_lSmall (iv_lSmall y x) (codeOf Tryz.f58) 0 (retQ c_lSmall sp_lSmall (Tryz.f58).results.toList y x) (startT sp_lSmall x) (startO sp_lSmall y) 1 =
  (∀ (r : El Ty.un × Els [Ty.bo]), r = ((), smallW x.fst.snd.fst x.snd.fst, ()) → (r.snd.fst = true → ∀ (r : El Ty.un × Els [Ty.bo]), r = ((), smallW x.fst.snd.snd.fst x.snd.fst, ()) → r.snd = (smallW x.fst.snd.fst x.snd.fst && smallW x.fst.snd.snd.fst x.snd.fst, ())) ∧ (r.snd.fst = false → (false, ()) = (smallW x.fst.snd.fst x.snd.fst && smallW x.fst.snd.snd.fst x.snd.fst, ()))) := by kernel_rfl
theorem m_lSmall (y : El (.un)) (x : Els [tR, .it .i64]) (h2 : wfE (.un) y) (h3 : wfEs [tR, .it .i64] x) :
  (∀ (r : El Ty.un × Els [Ty.bo]), r = ((), smallW x.fst.snd.fst x.snd.fst, ()) → (r.snd.fst = true → ∀ (r : El Ty.un × Els [Ty.bo]), r = ((), smallW x.fst.snd.snd.fst x.snd.fst, ()) → r.snd = (smallW x.fst.snd.fst x.snd.fst && smallW x.fst.snd.snd.fst x.snd.fst, ())) ∧ (r.snd.fst = false → (false, ()) = (smallW x.fst.snd.fst x.snd.fst && smallW x.fst.snd.snd.fst x.snd.fst, ()))) := by
  rintro _ rfl
  refine ⟨fun k => ?_, fun k => ?_⟩
  · rintro _ rfl
    simp_all
  · simp_all
set_option maxRecDepth 100000 in
theorem fo_lSmall : FnOk Tryz.prog 58 sp_lSmall := fnOk_of (C := c_lSmall) iv_lSmall Tryz.func58 rfl (by kernel_rfl) tys_ok (prims_cons (spec_prim fo_lsmall) prims_nil) mixed_ (Nat.le_refl _) rfl fun y x h1 h2 h3 h4 =>
  Eq.mpr (w_lSmall y x) (m_lSmall y x h2 h3)
def smallF (f : Fr) (m : Int) : Bool := smallW f.num m && smallW f.den m
noncomputable def sp_lheavy : Spec := { q := .un, ps := [tG], rs := [.bo], fresh := true, pre := fun _ _ => none, post := fun _ x => ((), (!(smallF (toFr x.1.1) 60) || !(smallF (toFr x.1.2.1) 60), ())) }
noncomputable def iv_lheavy (y : El sp_lheavy.q) (x : Els sp_lheavy.ps) : Nat → Option Inv := fun _ => none
noncomputable abbrev c_lheavy : Cfg := cfgS (Tryz.f38).ntmps false [(58, sp_lSmall.prim)]
set_option maxRecDepth 100000 in
theorem w_lheavy (y : El sp_lheavy.q) (x : Els sp_lheavy.ps) : aw c_lheavy (iv_lheavy y x) (codeOf Tryz.f38) 0 (retQ c_lheavy sp_lheavy (Tryz.f38).results.toList y x) (startT sp_lheavy x) (startO sp_lheavy y) 1 =
  (∀ (r : El Ty.un × Els [Ty.bo]), r = ((), smallW x.fst.fst.snd.fst (60 : Int) && smallW x.fst.fst.snd.snd.fst (60 : Int), ()) → ((!r.snd.fst) = true → (true, ()) = (!smallF (toFr x.fst.fst) (60 : Int) || !smallF (toFr x.fst.snd.fst) (60 : Int), ())) ∧ ((!r.snd.fst) = false → ∀ (r : El Ty.un × Els [Ty.bo]), r = ((), smallW x.fst.snd.fst.snd.fst (60 : Int) && smallW x.fst.snd.fst.snd.snd.fst (60 : Int), ()) → (!r.snd.fst, ()) = (!smallF (toFr x.fst.fst) (60 : Int) || !smallF (toFr x.fst.snd.fst) (60 : Int), ()))) := by kernel_rfl
theorem m_lheavy (y : El (.un)) (x : Els [tG]) (h2 : wfE (.un) y) (h3 : wfEs [tG] x) :
  (∀ (r : El Ty.un × Els [Ty.bo]), r = ((), smallW x.fst.fst.snd.fst (60 : Int) && smallW x.fst.fst.snd.snd.fst (60 : Int), ()) → ((!r.snd.fst) = true → (true, ()) = (!smallF (toFr x.fst.fst) (60 : Int) || !smallF (toFr x.fst.snd.fst) (60 : Int), ())) ∧ ((!r.snd.fst) = false → ∀ (r : El Ty.un × Els [Ty.bo]), r = ((), smallW x.fst.snd.fst.snd.fst (60 : Int) && smallW x.fst.snd.fst.snd.snd.fst (60 : Int), ()) → (!r.snd.fst, ()) = (!smallF (toFr x.fst.fst) (60 : Int) || !smallF (toFr x.fst.snd.fst) (60 : Int), ()))) := by
  rintro _ rfl
  refine ⟨fun k => ?_, fun k => ?_⟩
  all_goals try rintro _ rfl
  all_goals simp_all [smallF]
set_option maxRecDepth 100000 in
theorem fo_lheavy : FnOk Tryz.prog 38 sp_lheavy := fnOk_of (C := c_lheavy) iv_lheavy Tryz.func38 rfl (by kernel_rfl) tys_ok (prims_cons (spec_prim fo_lSmall) prims_nil) mixed_ (Nat.le_refl _) rfl fun y x h1 h2 h3 h4 =>
  Eq.mpr (w_lheavy y x) (m_lheavy y x h2 h3)
theorem beq_dec (a b : Int) : (a == b) = decide (a = b) := by rw [Bool.eq_iff_iff]; simp
noncomputable def sp_lone : Spec := { q := .un, ps := [tG, tG, tG, .it .i64, .it .i64, .it .i64], rs := [.bo], fresh := true, pre := fun _ _ => none, post := fun _ x => ((), (decide (toGa x.1 = toGa x.2.2.1) && decide (toGa x.2.1 = toGa x.2.2.1) && decide (x.2.2.2.1 = x.2.2.2.2.2.1) && decide (x.2.2.2.2.1 = x.2.2.2.2.2.1), ())) }
noncomputable def iv_lone (y : El sp_lone.q) (x : Els sp_lone.ps) : Nat → Option Inv := fun _ => none
noncomputable abbrev c_lone : Cfg := cfgS (Tryz.f54).ntmps false [(89, sp_kSameGauss.prim)]
set_option maxRecDepth 100000 in
theorem w_lone (y : El sp_lone.q) (x : Els sp_lone.ps) : aw c_lone (iv_lone y x) (codeOf Tryz.f54) 0 (retQ c_lone sp_lone (Tryz.f54).results.toList y x) (startT sp_lone x) (startO sp_lone y) 1 =
  (∀ (r : El Ty.un × Els [Ty.bo]), r = ((), decide (toGa x.fst = toGa x.snd.snd.fst), ()) → (r.snd.fst = true → ∀ (r : El Ty.un × Els [Ty.bo]), r = ((), decide (toGa x.snd.fst = toGa x.snd.snd.fst), ()) → (r.snd.fst = true → ((x.snd.snd.snd.fst == x.snd.snd.snd.snd.snd.fst) = true → (x.snd.snd.snd.snd.fst == x.snd.snd.snd.snd.snd.fst, ()) = (decide (toGa x.fst = toGa x.snd.snd.fst) && decide (toGa x.snd.fst = toGa x.snd.snd.fst) && decide (x.snd.snd.snd.fst = x.snd.snd.snd.snd.snd.fst) && decide (x.snd.snd.snd.snd.fst = x.snd.snd.snd.snd.snd.fst), ())) ∧ ((x.snd.snd.snd.fst == x.snd.snd.snd.snd.snd.fst) = false → (false, ()) = (decide (toGa x.fst = toGa x.snd.snd.fst) && decide (toGa x.snd.fst = toGa x.snd.snd.fst) && decide (x.snd.snd.snd.fst = x.snd.snd.snd.snd.snd.fst) && decide (x.snd.snd.snd.snd.fst = x.snd.snd.snd.snd.snd.fst), ()))) ∧ (r.snd.fst = false → (false, ()) = (decide (toGa x.fst = toGa x.snd.snd.fst) && decide (toGa x.snd.fst = toGa x.snd.snd.fst) && decide (x.snd.snd.snd.fst = x.snd.snd.snd.snd.snd.fst) && decide (x.snd.snd.snd.snd.fst = x.snd.snd.snd.snd.snd.fst), ()))) ∧ (r.snd.fst = false → (false, ()) = (decide (toGa x.fst = toGa x.snd.snd.fst) && decide (toGa x.snd.fst = toGa x.snd.snd.fst) && decide (x.snd.snd.snd.fst = x.snd.snd.snd.snd.snd.fst) && decide (x.snd.snd.snd.snd.fst = x.snd.snd.snd.snd.snd.fst), ()))) := by kernel_rfl
theorem m_lone (y : El (.un)) (x : Els [tG, tG, tG, .it .i64, .it .i64, .it .i64]) (h2 : wfE (.un) y) (h3 : wfEs [tG, tG, tG, .it .i64, .it .i64, .it .i64] x) :
  (∀ (r : El Ty.un × Els [Ty.bo]), r = ((), decide (toGa x.fst = toGa x.snd.snd.fst), ()) → (r.snd.fst = true → ∀ (r : El Ty.un × Els [Ty.bo]), r = ((), decide (toGa x.snd.fst = toGa x.snd.snd.fst), ()) → (r.snd.fst = true → ((x.snd.snd.snd.fst == x.snd.snd.snd.snd.snd.fst) = true → (x.snd.snd.snd.snd.fst == x.snd.snd.snd.snd.snd.fst, ()) = (decide (toGa x.fst = toGa x.snd.snd.fst) && decide (toGa x.snd.fst = toGa x.snd.snd.fst) && decide (x.snd.snd.snd.fst = x.snd.snd.snd.snd.snd.fst) && decide (x.snd.snd.snd.snd.fst = x.snd.snd.snd.snd.snd.fst), ())) ∧ ((x.snd.snd.snd.fst == x.snd.snd.snd.snd.snd.fst) = false → (false, ()) = (decide (toGa x.fst = toGa x.snd.snd.fst) && decide (toGa x.snd.fst = toGa x.snd.snd.fst) && decide (x.snd.snd.snd.fst = x.snd.snd.snd.snd.snd.fst) && decide (x.snd.snd.snd.snd.fst = x.snd.snd.snd.snd.snd.fst), ()))) ∧ (r.snd.fst = false → (false, ()) = (decide (toGa x.fst = toGa x.snd.snd.fst) && decide (toGa x.snd.fst = toGa x.snd.snd.fst) && decide (x.snd.snd.snd.fst = x.snd.snd.snd.snd.snd.fst) && decide (x.snd.snd.snd.snd.fst = x.snd.snd.snd.snd.snd.fst), ()))) ∧ (r.snd.fst = false → (false, ()) = (decide (toGa x.fst = toGa x.snd.snd.fst) && decide (toGa x.snd.fst = toGa x.snd.snd.fst) && decide (x.snd.snd.snd.fst = x.snd.snd.snd.snd.snd.fst) && decide (x.snd.snd.snd.snd.fst = x.snd.snd.snd.snd.snd.fst), ()))) := by
  rintro _ rfl
  refine ⟨fun k => ?_, fun k => ?_⟩
  · rintro _ rfl
    refine ⟨fun l => ⟨fun m => ?_, fun m => ?_⟩, fun l => ?_⟩
    all_goals
      simp only [beq_dec] at *
      simp_all
  · simp_all
set_option maxRecDepth 100000 in
theorem fo_lone : FnOk Tryz.prog 54 sp_lone := fnOk_of (C := c_lone) iv_lone Tryz.func54 rfl (by kernel_rfl) tys_ok (prims_cons (spec_prim fo_kSameGauss) prims_nil) mixed_ (Nat.le_refl _) rfl fun y x h1 h2 h3 h4 =>
  Eq.mpr (w_lone y x) (m_lone y x h2 h3)
end Go.Proofs.YtifonmdcicegdaaGreat

namespace Go.Proofs.YtifonmdcicegdaaGreat
open Go Go.RowKit

section
variable {gp : Option Nat} {Z0 : Nat → Prop} {w0 w w' : World} {D : Nat → Prop} {c : Cf} {T : Nat → Option AV} {O : Store} {a : Act} {N : Nat}
/-- THINGS MORE IN NEW BLOCKS -/
theorem Sim.news (S : Sim gp Z0 w0 N D c T O a.tmps w) (hx : Below w.heap.size w w') {es : List Ent} {n : Nat} {ob : OB} {v : Value} {av : AV} (hfr : ∀ i, n ≤ i → i < n + es.length → ¬ D i) (hnd : (es.flatMap Ent.all).Nodup) (hbase : ∀ g ∈ es.flatMap Ent.all, w.heap.size ≤ g)
    (hob : ∀ c' : Cf, Put c' n es → c.Le c' → Stay c.Z w w' → ObsOk c' w' n (n + es.length) ob ∧ RA c' w' v av) :
    ∃ c', c.Le c' ∧ ∀ d, dstOk N d = true → Sim gp Z0 w0 N (fun j => D j ∨ n ≤ j ∧ j < n + es.length) c' (upT T d av) (upO O ob) (a.put d v).tmps w' := by
  have hext : Ext w w' := hx
  let c' : Cf := ⟨fun i => if n ≤ i ∧ i < n + es.length then es[i - n]? else c.m i, c.Z⟩
  have put : Put c' n es := fun k e hk => by
    have := (List.getElem?_eq_some_iff.1 hk).1
    show (if n ≤ n + k ∧ n + k < n + es.length then es[n + k - n]? else c.m (n + k)) = some e
    rw [if_pos ⟨by omega, by omega⟩, show n + k - n = k by omega]
    exact hk
  have le : c.Le c' := ⟨fun i e hi => by
    show (if n ≤ i ∧ i < n + es.length then es[i - n]? else c.m i) = some e
    rw [if_neg (fun h => hfr i h.1 h.2 (S.dom i e hi))]
    exact hi, fun _ h => h⟩
  have st : Stay c.Z w w' := fun g hz => hext.block g (S.zl g hz)
  obtain ⟨q2, q1⟩ := hob c' put le st
  have lk : ∀ i o, look ob i = some o → (n ≤ i ∧ i < n + es.length) ∧ ObOk c' w' i o ∧ c'.m i = es[i - n]? := fun i o h => by
    obtain ⟨r1, r2, r3⟩ := q2 _ (look_mem h)
    exact ⟨⟨r1, r2⟩, r3, if_pos ⟨r1, r2⟩⟩
  refine ⟨c', le, fun d hd => S.step hd le st q1 (fun i o h1 _ h3 e g h4 h5 => hext.block g ((S.obj i o h1).lt h3 e g h4 h5)) (fun i o h => (lk i o h).2.1) (fun i o e g h1 h2 h3 h4 => ?_) (fun i j o p e f g h1 h2 h3 h4 h5 h6 h7 h8 => ?_) (fun g hz => ⟨Nat.lt_of_lt_of_le (S.zl g hz) hext.size, S.zz g hz, fun i o e h1 _ h3 h4 h5 => S.zo i o e g h1 h3 h4 h5 hz⟩) (fun i e h => ?_) (grown_trans S.gr (hext.by_ _)) (fun i cs o h1 h2 => ?_)⟩
  · obtain ⟨l1, _, l3⟩ := lk i o h1
    rw [l3] at h3
    have hgb : g ∈ es.flatMap Ent.all := List.mem_flatMap.2 ⟨e, List.mem_of_getElem? h3, h4⟩
    refine ⟨.inr (hbase g hgb), fun hz => ?_⟩
    have := S.zl g hz
    have := hbase g hgb
    omega
  · intro h9
    obtain ⟨l1, _, l3⟩ := lk i o h1
    obtain ⟨m1, _, m3⟩ := lk j p h2
    rw [l3] at h6
    rw [m3] at h7
    have := flat_inj hnd _ _ e f g h6 h7 h8 h9
    omega
  · have h' : (if n ≤ i ∧ i < n + es.length then es[i - n]? else c.m i) = some e := h
    split at h'
    · rename_i hr; exact .inr hr
    · exact .inl (S.dom i e h')
  · obtain ⟨l1, _, _⟩ := lk i o h2
    obtain ⟨e, _, _, _, y, _⟩ := S.obj i _ h1
    exact absurd (S.dom i e y) (hfr i l1.1 l1.2)
end
end Go.Proofs.YtifonmdcicegdaaGreat

namespace Go.Proofs.YtifonmdcicegdaaGreat
open Go Go.RowKit

theorem look_push {α : Type} {l : List α} {x y : α} {i : Nat} (h : (l ++ [x])[i]? = some y) : l[i]? = some y ∨ (i = l.length ∧ x = y) := by
  by_cases hi : i < l.length
  · rw [List.getElem?_append_left hi] at h; exact .inl h
  · rw [List.getElem?_append_right (by omega)] at h
    by_cases h0 : i - l.length = 0
    · rw [h0] at h; simp at h; exact .inr ⟨by omega, h⟩
    · rw [List.getElem?_eq_none (by simp; omega)] at h; cases h
/-- V: blocks with what they hold; R: fractions with where they lie. row: a block that was there and is written; wb: a world before it -/
structure Sta (wb w0 : World) (row : Option Nat) (V : List (Nat × List Value)) (R : List (Adr × Fr)) (w : World) : Prop where
  v : ∀ (i k : Nat) (vs : List Value), V[i]? = some (k, vs) → Var k vs w
  vn : ∀ (i j k : Nat) (vs us : List Value), V[i]? = some (k, vs) → V[j]? = some (k, us) → i = j
  vb : ∀ (i k : Nat) (vs : List Value), V[i]? = some (k, vs) → w0.heap.size ≤ k ∨ row = some k
  vw : ∀ (i k : Nat) (vs : List Value), V[i]? = some (k, vs) → wb.heap.size ≤ k
  r : ∀ (i : Nat) (p : Adr) (f : Fr), R[i]? = some (p, f) → OF w w0.heap.size p f
  ro : ∀ (i : Nat) (p : Adr) (f : Fr) (j k : Nat) (vs : List Value), R[i]? = some (p, f) → V[j]? = some (k, vs) → p.Off k
  rd : ∀ (i j : Nat) (p : Adr) (f : Fr) (q : Adr) (g : Fr), i < j → R[i]? = some (p, f) → R[j]? = some (q, g) → p.Dis q
  x : Below wb.heap.size wb w
  g : w0.grownBy w row
  hb : wb.heap.size ≤ w0.heap.size

section
variable {wb w0 w w' : World} {row : Option Nat} {V : List (Nat × List Value)} {R : List (Adr × Fr)}

theorem Sta.start (w : World) : Sta w w none [] [] w :=
  ⟨fun _ _ _ h => by simp at h, fun _ _ _ _ _ h => by simp at h, fun _ _ _ h => by simp at h, fun _ _ _ h => by simp at h, fun _ _ _ h => by simp at h, fun _ _ _ _ _ _ h => by simp at h, fun _ _ _ _ _ _ _ h => by simp at h, Below.refl _ _, World.grownBy.refl _ _, Nat.le_refl _⟩
theorem Sta.ext (S : Sta wb w0 row V R w) (x : Below w.heap.size w w') : Sta wb w0 row V R w' :=
  ⟨fun i k vs h => (S.v i k vs h).ext x, S.vn, S.vb, S.vw, fun i p f h => (S.r i p f h).ext x, S.ro, S.rd, Below.join S.x x, grown_ext S.g x, S.hb⟩
theorem Sta.drew (S : Sta wb w0 row V R w) : Sta wb w0 row V R w.drew := S.ext (Ext.refl w).drew
theorem Sta.new (S : Sta wb w0 row V R w) (vs : List Value) (t : TypeId) : Sta wb w0 row (V ++ [(w.heap.size, vs)]) R (w.alloc (.cells vs.toArray t)) := by
  have x := (Ext.refl w).alloc (.cells vs.toArray t)
  have hs := S.g.size
  refine ⟨fun i k us h => ?_, fun i j k us zs h h' => ?_, fun i k us h => ?_, fun i k us h => ?_, fun i p f h => (S.r i p f h).ext x, fun i p f j k us h h' => ?_, S.rd, Below.join S.x x, grown_ext S.g x, S.hb⟩
  · rcases look_push h with h | ⟨_, h⟩
    · exact (S.v i k us h).ext x
    · cases h; exact Var.new w vs t
  · rcases look_push h with h | ⟨e, h⟩ <;> rcases look_push h' with h' | ⟨e', h'⟩
    · exact S.vn i j k us zs h h'
    · cases h'; exact absurd (S.v i _ us h).lt (Nat.lt_irrefl _)
    · cases h; exact absurd (S.v j _ zs h').lt (Nat.lt_irrefl _)
    · omega
  · rcases look_push h with h | ⟨_, h⟩
    · exact S.vb i k us h
    · cases h; exact .inl hs
  · rcases look_push h with h | ⟨_, h⟩
    · exact S.vw i k us h
    · cases h; exact Nat.le_trans S.hb hs
  · rcases look_push h' with h' | ⟨_, h'⟩
    · exact S.ro i p f j k us h h'
    · cases h'; exact (S.r i p f h).offHi (Nat.le_refl _)
/-- a row more, behind a call that began in w -/
theorem Sta.add {V' : List (Nat × List Value)} (S : Sta wb w0 row V R w) (T : Sta wb w0 row V' R w') (hV : ∀ (i k : Nat) (vs : List Value), V'[i]? = some (k, vs) → k < w.heap.size) {p : Adr} {f : Fr} (o : OF w' w.heap.size p f) : Sta wb w0 row V' (R ++ [(p, f)]) w' := by
  refine ⟨T.v, T.vn, T.vb, T.vw, fun i q g h => ?_, fun i q g j k vs h h' => ?_, fun i j q g s h hij h1 h2 => ?_, T.x, T.g, T.hb⟩
  · rcases look_push h with h | ⟨_, h⟩
    · exact T.r i q g h
    · cases h; exact o.lower S.g.size
  · rcases look_push h with h | ⟨_, h⟩
    · exact T.ro i q g j k vs h h'
    · cases h; exact o.offLo (hV j k vs h')
  · rcases look_push h2 with h2 | ⟨e2, h2⟩
    · rcases look_push h1 with h1 | ⟨e1, h1⟩
      · exact T.rd i j q g s h hij h1 h2
      · have := (List.getElem?_eq_some_iff.1 h2).1; omega
    · rcases look_push h1 with h1 | ⟨e1, h1⟩
      · cases h2; exact (S.r i q g h1).dis o (Nat.le_refl _)
      · omega
/-- a call that tells a fraction in new memory -/
theorem Sta.call (S : Sta wb w0 row V R w) (x : Below w.heap.size w w') {p : Adr} {f : Fr} (o : OF w' w.heap.size p f) : Sta wb w0 row V (R ++ [(p, f)]) w' :=
  S.add (S.ext x) (fun i k vs h => (S.v i k vs h).lt) o
/-- a row more, that lies apart -/
theorem Sta.plus (T : Sta wb w0 row V R w) {p : Adr} {f : Fr} (o : OF w w0.heap.size p f) (ho : ∀ (i k : Nat) (vs : List Value), V[i]? = some (k, vs) → p.Off k) (hd : ∀ (i : Nat) (q : Adr) (g : Fr), R[i]? = some (q, g) → q.Dis p) : Sta wb w0 row V (R ++ [(p, f)]) w := by
  refine ⟨T.v, T.vn, T.vb, T.vw, fun i q g h => ?_, fun i q g j k vs h h' => ?_, fun i j q g s h hij h1 h2 => ?_, T.x, T.g, T.hb⟩
  · rcases look_push h with h | ⟨_, h⟩
    · exact T.r i q g h
    · cases h; exact o
  · rcases look_push h with h | ⟨_, h⟩
    · exact T.ro i q g j k vs h h'
    · cases h; exact ho j k vs h'
  · rcases look_push h2 with h2 | ⟨e2, h2⟩
    · rcases look_push h1 with h1 | ⟨e1, h1⟩
      · exact T.rd i j q g s h hij h1 h2
      · have := (List.getElem?_eq_some_iff.1 h2).1; omega
    · rcases look_push h1 with h1 | ⟨e1, h1⟩
      · cases h2; exact hd i q g h1
      · omega
theorem Sta.conv {V' : List (Nat × List Value)} {R' : List (Adr × Fr)} (S : Sta wb w0 row V R w) (h : V = V') (h' : R = R') : Sta wb w0 row V' R' w := h ▸ h' ▸ S
theorem Sta.name (S : Sta wb w0 row V R w) : ∃ V' R', V' = V ∧ R' = R ∧ Sta wb w0 row V' R' w := ⟨V, R, rfl, rfl, S⟩
theorem Sta.c3 (S : Sta wb w0 row V R w) (i : Nat) {k : Nat} {a b c : Value} (hi : V[i]? = some (k, [a, b, c])) : w.cell? ⟨k, 0, none⟩ = some a ∧ w.cell? ⟨k, 1, none⟩ = some b ∧ w.cell? ⟨k, 2, none⟩ = some c := (S.v i k _ hi).c3
theorem Sta.c6 (S : Sta wb w0 row V R w) (i : Nat) {k : Nat} {a b c d e f : Value} (hi : V[i]? = some (k, [a, b, c, d, e, f])) : w.cell? ⟨k, 0, none⟩ = some a ∧ w.cell? ⟨k, 1, none⟩ = some b ∧ w.cell? ⟨k, 2, none⟩ = some c ∧ w.cell? ⟨k, 3, none⟩ = some d ∧ w.cell? ⟨k, 4, none⟩ = some e ∧ w.cell? ⟨k, 5, none⟩ = some f := (S.v i k _ hi).c6
theorem Var.f6 {g : Nat} {vs : List Value} {w : World} (h : Var g vs w) : w.frozen? ⟨g, 0, none⟩ = false ∧ w.frozen? ⟨g, 1, none⟩ = false ∧ w.frozen? ⟨g, 2, none⟩ = false ∧ w.frozen? ⟨g, 3, none⟩ = false ∧ w.frozen? ⟨g, 4, none⟩ = false ∧ w.frozen? ⟨g, 5, none⟩ = false := ⟨h.fr 0, h.fr 1, h.fr 2, h.fr 3, h.fr 4, h.fr 5⟩
theorem Sta.f3 (S : Sta wb w0 row V R w) (i : Nat) {k : Nat} {vs : List Value} (hi : V[i]? = some (k, vs)) : w.frozen? ⟨k, 0, none⟩ = false ∧ w.frozen? ⟨k, 1, none⟩ = false ∧ w.frozen? ⟨k, 2, none⟩ = false := (S.v i k _ hi).f3
theorem Sta.f6 (S : Sta wb w0 row V R w) (i : Nat) {k : Nat} {vs : List Value} (hi : V[i]? = some (k, vs)) : w.frozen? ⟨k, 0, none⟩ = false ∧ w.frozen? ⟨k, 1, none⟩ = false ∧ w.frozen? ⟨k, 2, none⟩ = false ∧ w.frozen? ⟨k, 3, none⟩ = false ∧ w.frozen? ⟨k, 4, none⟩ = false ∧ w.frozen? ⟨k, 5, none⟩ = false := (S.v i k _ hi).f6
theorem Sta.rf (S : Sta wb w0 row V R w) (i : Nat) {p : Adr} {f : Fr} (hi : R[i]? = some (p, f)) : RF w p f := (S.r i p f hi).rf
theorem Sta.below (S : Sta wb w0 none V R w) : Below w0.heap.size w0 w := Ext.grownNone (Ext.refl w0) S.g
/-- what was in R, without the rest -/
theorem Sta.more (S : Sta wb w0 row V R w) : w0.heap.size ≤ w.heap.size := S.g.size
end

/-- cells below N read as in W, but for two blocks -/
abbrev Sk (W : World) (N k m : Nat) (w : World) : Prop := ∀ b o, b < N → b ≠ k → b ≠ m → w.cell? ⟨b, o, none⟩ = W.cell? ⟨b, o, none⟩
theorem Sk.refl (W : World) (N k m : Nat) : Sk W N k m W := fun _ _ _ _ _ => rfl
theorem Sk.ext {W w w' : World} {N k m : Nat} (h : Sk W N k m w) (x : Below w.heap.size w w') (hN : N ≤ w.heap.size) : Sk W N k m w' := fun b o hb hk hm => ((bcell x).1 b o (by omega)).trans (h b o hb hk hm)
theorem Sk.drew {W w : World} {N k m : Nat} (h : Sk W N k m w) : Sk W N k m w.drew := h
theorem Sk.alloc {W w : World} {N k m : Nat} {o : Obj} (h : Sk W N k m w) (hN : N ≤ w.heap.size) : Sk W N k m (w.alloc o) := h.ext ((Ext.refl w).alloc o) hN
theorem Sk.set {W w : World} {N k m o : Nat} {u : Value} (h : Sk W N k m w) : Sk W N k m (w.setCell ⟨m, o, none⟩ u) := fun b i hb hk hm => (World.cell?_setCell_far w ⟨m, o, none⟩ ⟨b, i, none⟩ u (fun e => hm e.symm)).trans (h b i hb hk hm)
theorem Sk.same {W w : World} {N k m : Nat} {p : Addr} {u : Value} (h : Sk W N k m w) (hp : w.cell? p = some u) : Sk W N k m (w.setCell p u) := fun b i hb hk hm => by
  refine Eq.trans ?_ (h b i hb hk hm)
  by_cases e : p = ⟨b, i, none⟩
  · rw [← e, World.cell?_setCell_same _ _ _ hp, hp]
  · exact World.cell?_setCell_other _ _ _ _ e
/-- the cells of W read as they were -/
abbrev Sk0 (W w : World) : Prop := ∀ b o, b < W.heap.size → w.cell? ⟨b, o, none⟩ = W.cell? ⟨b, o, none⟩
theorem Sk0.of {W w : World} (x : Below W.heap.size W w) : Sk0 W w := fun b o h => (bcell x).1 b o h
theorem Sk0.grown {W X w : World} {r : Option Nat} (h : Sk0 W X) (g : X.grownBy w r) (hr : ∀ b, r = some b → W.heap.size ≤ b) (hN : W.heap.size ≤ X.heap.size) : Sk0 W w := fun b o hb =>
  (World.cell?_of_block (a := ⟨b, o, none⟩) (g.block b (by omega) (fun e => by have := hr b e.symm; omega))).trans (h b o hb)
/-- .. and nothing is gone -/
abbrev Skz (W w : World) : Prop := (∀ b o, b < W.heap.size → w.cell? ⟨b, o, none⟩ = W.cell? ⟨b, o, none⟩) ∧ W.heap.size ≤ w.heap.size
theorem Skz.start (W : World) : Skz W W.drew := ⟨fun _ _ _ => rfl, Nat.le_refl _⟩
theorem Skz.alloc {W w : World} {o : Obj} (h : Skz W w) : Skz W (w.alloc o) := ⟨fun b i hb => ((bcell ((Ext.refl w).alloc o)).1 b i (by have := h.2; omega)).trans (h.1 b i hb), by simp only [World.size_alloc]; have := h.2; omega⟩
theorem Skz.drew {W w : World} (h : Skz W w) : Skz W w.drew := h
theorem Skz.ext {W w w' : World} (h : Skz W w) (x : Below w.heap.size w w') : Skz W w' := ⟨fun b i hb => ((bcell x).1 b i (by have := h.2; omega)).trans (h.1 b i hb), Nat.le_trans h.2 (Ext.size x)⟩
theorem Skz.grown {W X w : World} {r : Option Nat} (h : Skz W X) (g : X.grownBy w r) (hr : ∀ b, r = some b → W.heap.size ≤ b) : Skz W w :=
  ⟨fun b i hb => (World.cell?_of_block (a := ⟨b, i, none⟩) (g.block b (by have := h.2; omega) (fun e => by have := hr b e.symm; omega))).trans (h.1 b i hb), Nat.le_trans h.2 g.size⟩
end Go.Proofs.YtifonmdcicegdaaGreat

namespace Go.Proofs.YtifonmdcicegdaaGreat
open Go Go.RowKit

/-- a complex fraction that is read -/
structure RG (w : World) (p q : Adr) (a : Ga) : Prop where
  re : RF w p a.re
  im : RF w q a.im
theorem RG.ext {w w' : World} {p q : Adr} {a : Ga} (h : RG w p q a) (x : Ext w w') : RG w' p q a := ⟨h.re.ext x, h.im.ext x⟩
theorem RG.wf {w : World} {p q : Adr} {a : Ga} (h : RG w p q a) : a.Wf := ⟨h.re.wf, h.im.wf⟩
end Go.Proofs.YtifonmdcicegdaaGreat

namespace Go.Proofs.YtifonmdcicegdaaGreat
open Go Go.RowKit

/-- a fraction's words with what stands behind them when it is lent -/
def lentF (f : Fr) : Fr := ⟨f.neg, f.num ++ marks, f.den ++ marks⟩
theorem wf_app {xs ys : List Int} (h : Wf xs) (k : Wf ys) : Wf (xs ++ ys) := fun x hx => (List.mem_append.1 hx).elim (h x) (k x)
theorem lentF_wf {f : Fr} (h : f.Wf) : (lentF f).Wf := ⟨wf_app h.num wf_marks, wf_app h.den wf_marks⟩
/-- few enough words -/
def Few (f : Fr) : Prop := f.num.length ≤ 1000000 ∧ f.den.length ≤ 1000000
theorem few_zero : Few Fr.zero := ⟨Nat.zero_le _, Nat.zero_le _⟩
theorem few_enc {q : Rat} (h : ¬ lng q = true) : Few (enc q) := by
  have h1 := not_lng h
  exact ⟨by show (wd _).length ≤ _; omega, by show (wd _).length ≤ _; omega⟩
theorem Good.few {t : Fr × Int} (h : Good t) : Few t.1 := by
  by_cases e : t.2 = 0
  · obtain ⟨q, hq, hl⟩ := h.1 e; rw [hq]; exact few_enc hl
  · rw [h.2 e]; exact few_zero
/-- few words in both parts -/
def FewG (a : Ga) : Prop := Few a.re ∧ Few a.im
theorem kLent (f : Fr) (p : Adr) (w : World) (h : RF w p f) (hm : Few f) : Calls Tryz.prog 13 #[.agg #[.bool f.neg, .slice p.A f.num.length p.c, .slice p.B f.den.length p.d]] w fun e w' =>
    ∃ p' : Adr, e = .returned (.agg #[.bool f.neg, .slice p'.A f.num.length p'.c, .slice p'.B f.den.length p'.d]) ∧ OF w' w.heap.size p' (lentF f) ∧ Below w.heap.size w w' :=
  (klentR_any f _ _ _ _ w h.num h.den hm.1 hm.2).mono fun _ _ ⟨A, c, B, d, h1, h2, h3, h4, h5⟩ => ⟨⟨A, c, B, d⟩, h1, ⟨h2, h3, h4, lentF_wf h.wf⟩, h5⟩
end Go.Proofs.YtifonmdcicegdaaGreat

namespace Go.Proofs.YtifonmdcicegdaaGreat
open Go Go.RowKit

abbrev toFrL (x : El tRL) : Fr := ⟨x.1, x.2.1, x.2.2.1⟩
abbrev toGaL (x : El tGL) : Ga := ⟨toFrL x.1, toFrL x.2.1⟩
theorem mks4_words (j : Nat) (us : List Value) (h : (mks 4 (.it .u32))[j]? = some us) : ∃ x, mk3[j]? = some x ∧ us = [.int .u32 x] := by
  have e : mks 4 (.it .u32) = mk3.map fun x => [.int .u32 x] := rfl
  rw [e, List.getElem?_map] at h
  cases hx : mk3[j]? with
  | none => rw [hx] at h; cases h
  | some x => rw [hx] at h; cases h; exact ⟨x, rfl, rfl⟩
theorem rq_lent {Z : Nat → Prop} {w : World} {base : Nat} {A : Option Addr} {c : Nat} {xs : List Int} (h : Own w base A c (xs ++ mk3)) (hw : Wf (xs ++ mk3)) : RQ true Z w base (.lt (.it .u32)) xs [.slice A xs.length c] (blkA A) := by
  unfold RQ
  rw [if_pos rfl]
  rcases h.cases with ⟨_, _, e⟩ | ⟨g, cur, rfl, h1, h2, h3, h4, h5, h6⟩
  · exact absurd e (by simp [mk3])
  · have at_ : ∀ (j : Nat) (hj : j < (xs ++ mk3).length), w.cell? ⟨g, j, none⟩ = some (.int .u32 ((xs ++ mk3)[j]'hj)) := fun j hj => by
      obtain ⟨a, ha, hc⟩ := h.rd.at_ j hj
      cases ha
      rw [nth_lt _ j hj, adr_add] at hc
      simpa using hc
    rw [List.length_append] at h3
    refine rowQ_words (m := 4) h1 h2 h5 h3 h4 (fun x hx => hw x (by simp [hx])) (fun j hj => ?_) (fun j us hj i u hu => ?_)
    · have := at_ j (by rw [List.length_append]; omega)
      rw [List.getElem_append_left hj] at this
      exact this
    · obtain ⟨x, k1, rfl⟩ := mks4_words j us hj
      obtain ⟨hj3, rfl⟩ := List.getElem?_eq_some_iff.1 k1
      cases i with
      | zero =>
        cases hu
        have := at_ (xs.length + j) (by rw [List.length_append]; omega)
        rw [List.getElem_append_right (by omega)] at this
        simpa using this
      | succ i => simp at hu
theorem rd_lent {Z : Nat → Prop} {w : World} {l : List Int} {vs : List Value} (h : RT Z w (.lt (.it .u32)) l vs) : ∃ A c, vs = [.slice A l.length c] ∧ Rd w A c (l ++ mk3) ∧ Wf l := by
  obtain ⟨g, o, c, h1, h2, h3, h4, h5, h6⟩ := h.lt_row
  have el : ∀ (j : Nat) (hj : j < l.length), (0 ≤ l[j] ∧ l[j] ≤ 4294967295) ∧ w.cell? ⟨g, o + j, none⟩ = some (.int .u32 l[j]) := fun j hj => by
    obtain ⟨us, k1, k2⟩ := h5 j hj
    rw [RT] at k1
    obtain ⟨rfl, k3⟩ := k1
    refine ⟨k3, ?_⟩
    have := k2 0 _ rfl
    rw [show o + (j * (Ty.it IntKind.u32).size + 0) = o + j by show o + (j * 1 + 0) = o + j; omega] at this
    exact this
  refine ⟨_, c, h1, ⟨by rw [List.length_append]; exact h2, h3, (fun e => by cases e), fun j hj => ⟨_, rfl, ?_⟩⟩, fun x hx => ?_⟩
  · rw [nth_lt _ j hj, adr_add]
    by_cases hl : j < l.length
    · rw [List.getElem_append_left hl]; exact (el j hl).2
    · rw [List.length_append] at hj
      have hj3 : j - l.length < mk3.length := by omega
      rw [List.getElem_append_right (by omega)]
      have := h6 (j - l.length) [.int .u32 mk3[j - l.length]] (by
        have e : mks 4 (.it .u32) = mk3.map fun x => [.int .u32 x] := rfl
        rw [e, List.getElem?_map, List.getElem?_eq_getElem hj3]; rfl) 0 _ rfl
      rw [show o + l.length * (Ty.it IntKind.u32).size + ((j - l.length) * (Ty.it IntKind.u32).size + 0) = o + j by show o + l.length * 1 + ((j - l.length) * 1 + 0) = o + j; omega] at this
      exact this
  · obtain ⟨j, hj, rfl⟩ := List.getElem_of_mem hx
    have := (el j hj).1
    exact ⟨this.1, Int.lt_of_le_of_lt this.2 (by decide)⟩
theorem rv_frL {Z : Nat → Prop} {w : World} {x : El tRL} {v : Value} (h : RV Z w tRL x v) : ∃ p : Adr, v = .agg #[.bool (toFrL x).neg, .slice p.A (toFrL x).num.length p.c, .slice p.B (toFrL x).den.length p.d] ∧ RF w p (lentF (toFrL x)) ∧ (toFrL x).Wf := by
  unfold RV at h
  rw [if_pos (show tRL.agg = true from rfl)] at h
  obtain ⟨us, rfl, h⟩ := h
  obtain ⟨u1, u2, e, h1, h2⟩ : ∃ u u', us.toList = u ++ u' ∧ RT Z w .bo x.1 u ∧ RT Z w (.pr (.lt (.it .u32)) (.pr (.lt (.it .u32)) .un)) x.2 u' := by rw [RT] at h; exact h
  obtain ⟨u3, u4, rfl, h3, h4⟩ : ∃ u u', u2 = u ++ u' ∧ RT Z w (.lt (.it .u32)) x.2.1 u ∧ RT Z w (.pr (.lt (.it .u32)) .un) x.2.2 u' := by rw [RT] at h2; exact h2
  obtain ⟨u5, u6, rfl, h5, h6⟩ : ∃ u u', u4 = u ++ u' ∧ RT Z w (.lt (.it .u32)) x.2.2.1 u ∧ RT Z w .un x.2.2.2 u' := by rw [RT] at h4; exact h4
  have h1 : u1 = [.bool x.1] := by rw [RT] at h1; exact h1
  have h6 : u6 = [] := by rw [RT] at h6; exact h6
  subst h1 h6
  obtain ⟨A, c, rfl, r1, w1⟩ := rd_lent h3
  obtain ⟨B, d, rfl, r2, w2⟩ := rd_lent h5
  refine ⟨⟨A, c, B, d⟩, ?_, ⟨r1, r2, lentF_wf (f := toFrL x) ⟨w1, w2⟩⟩, w1, w2⟩
  congr 1
  apply Array.ext'
  rw [e]; rfl
def sp_kLent : Spec := { q := .un, ps := [tR], rs := [tRL], fresh := true, pre := fun _ x => some (Few (toFr x.1)), post := fun _ x => ((), (x.1, ())) }
theorem fo_kLent : FnOk Tryz.prog 13 sp_kLent := by
  refine ⟨callFunc_enter Tryz.func13 (by kernel_rfl) rfl, fun Z w gv vs y x hZ hv hc _ _ => ?_⟩
  match vs, hv with
  | [u], ⟨h1, _⟩ =>
    obtain ⟨p, rfl, k1⟩ := rv_fr h1
    refine (kLent _ p w k1 hc).mono ?_
    rintro e w' ⟨p', rfl, o, b⟩
    exact told_new (S := sp_kLent) (r := (x.1, ())) (us := [_]) (bs := blkA p'.A ++ blkA p'.B) rfl rfl (.inl ⟨_, rfl, rfl⟩) hZ ⟨_, [], (List.append_nil _).symm, ⟨_, rfl, ⟨[_], _, [], _, rfl, rfl, ⟨by rw [RT], rfl⟩, [_], [_], _, _, rfl, rfl, rq_lent o.num o.wf.num, [_], [], _, [], rfl, (List.append_nil _).symm, rq_lent o.den o.wf.den, rfl, rfl⟩⟩, rfl⟩ (blkA_nodup o.ap) (blkA_base o) b
def sp_kKept : Spec := { q := .un, ps := [tRL, tR], rs := [.bo], fresh := true, pre := fun _ x => some (toFrL x.1 = toFr x.2.1 ∧ Few (toFr x.2.1)), post := fun _ _ => ((), (true, ())) }
theorem fo_kKept : FnOk Tryz.prog 36 sp_kKept := by
  refine ⟨callFunc_enter Tryz.func36 (by kernel_rfl) rfl, fun Z w gv vs y x hZ hv hc _ _ => ?_⟩
  match vs, hv with
  | [u, v], ⟨h1, h2, _⟩ =>
    obtain ⟨p, rfl, k1, _⟩ := rv_frL h1
    obtain ⟨q, rfl, k2⟩ := rv_fr h2
    obtain ⟨he, hm⟩ : toFrL x.1 = toFr x.2.1 ∧ Few (toFr x.2.1) := hc
    rw [he] at k1 ⊢
    refine (kkeptR_any (toFr x.2.1) _ _ _ _ _ _ _ _ w k1.num k1.den k2.num k2.den hm.1 hm.2).mono ?_
    rintro e w' ⟨rfl, b⟩
    exact told_new (S := sp_kKept) (r := (true, ())) (us := [_]) (bs := []) rfl rfl (.inl ⟨_, rfl, rfl⟩) hZ ⟨[], [], rfl, ⟨by rw [RT], rfl⟩, rfl⟩ List.nodup_nil (fun g hg => by simp at hg) b
end Go.Proofs.YtifonmdcicegdaaGreat

namespace Go.Proofs.YtifonmdcicegdaaGreat
open Go Go.RowKit

noncomputable def sp_kLentG : Spec := { q := .un, ps := [tG], rs := [tGL], fresh := true, pre := fun _ x => some (Few (toFr x.1.1) ∧ Few (toFr x.1.2.1)), post := fun _ x => ((), (x.1, ())) }
noncomputable def iv_kLentG (y : El sp_kLentG.q) (x : Els sp_kLentG.ps) : Nat → Option Inv := fun _ => none
noncomputable abbrev c_kLentG : Cfg := cfgS (Tryz.f39).ntmps false [(13, sp_kLent.prim)]
set_option maxRecDepth 100000 in
theorem w_kLentG (y : El sp_kLentG.q) (x : Els sp_kLentG.ps) : aw c_kLentG (iv_kLentG y x) (codeOf Tryz.f39) 0 (retQ c_kLentG sp_kLentG (Tryz.f39).results.toList y x) (startT sp_kLentG x) (startO sp_kLentG y) 1 =
  (((toFr x.fst.fst).num.length ≤ (1000000 : Nat) ∧ (toFr x.fst.fst).den.length ≤ (1000000 : Nat)) ∧ ∀ (r : El Ty.un × Els [tRL]), r = ((), x.fst.fst, ()) → ((toFr x.fst.snd.fst).num.length ≤ (1000000 : Nat) ∧ (toFr x.fst.snd.fst).den.length ≤ (1000000 : Nat)) ∧ ∀ (r_1 : El Ty.un × Els [tRL]), r_1 = ((), x.fst.snd) → ((r.snd.fst, r_1.snd), ()) = x) := by kernel_rfl
theorem m_kLentG (y : El (.un)) (x : Els [tG]) (h2 : wfE (.un) y) (h3 : wfEs [tG] x) (h4 : Few (toFr x.1.1) ∧ Few (toFr x.1.2.1)) :
  (((toFr x.fst.fst).num.length ≤ (1000000 : Nat) ∧ (toFr x.fst.fst).den.length ≤ (1000000 : Nat)) ∧ ∀ (r : El Ty.un × Els [tRL]), r = ((), x.fst.fst, ()) → ((toFr x.fst.snd.fst).num.length ≤ (1000000 : Nat) ∧ (toFr x.fst.snd.fst).den.length ≤ (1000000 : Nat)) ∧ ∀ (r_1 : El Ty.un × Els [tRL]), r_1 = ((), x.fst.snd) → ((r.snd.fst, r_1.snd), ()) = x) := by
  refine ⟨h4.1, ?_⟩
  rintro _ rfl
  refine ⟨h4.2, ?_⟩
  rintro _ rfl
  rfl
set_option maxRecDepth 100000 in
theorem fo_kLentG : FnOk Tryz.prog 39 sp_kLentG := fnOk_of (C := c_kLentG) iv_kLentG Tryz.func39 rfl (by kernel_rfl) tys_ok (prims_cons (spec_prim fo_kLent) prims_nil) mixed_ (Nat.le_refl _) rfl fun y x h1 h2 h3 h4 =>
  Eq.mpr (w_kLentG y x) (m_kLentG y x h2 h3 h4)
noncomputable def sp_kKeptG : Spec := { q := .un, ps := [tGL, tG], rs := [.bo], fresh := true, pre := fun _ x => some (toGaL x.1 = toGa x.2.1 ∧ Few (toFr x.2.1.1) ∧ Few (toFr x.2.1.2.1)), post := fun _ _ => ((), (true, ())) }
noncomputable def iv_kKeptG (y : El sp_kKeptG.q) (x : Els sp_kKeptG.ps) : Nat → Option Inv := fun _ => none
noncomputable abbrev c_kKeptG : Cfg := cfgS (Tryz.f56).ntmps false [(36, sp_kKept.prim)]
set_option maxRecDepth 100000 in
theorem w_kKeptG (y : El sp_kKeptG.q) (x : Els sp_kKeptG.ps) : aw c_kKeptG (iv_kKeptG y x) (codeOf Tryz.f56) 0 (retQ c_kKeptG sp_kKeptG (Tryz.f56).results.toList y x) (startT sp_kKeptG x) (startO sp_kKeptG y) 1 =
  ((toFrL x.fst.fst = toFr x.snd.fst.fst ∧ (toFr x.snd.fst.fst).num.length ≤ (1000000 : Nat) ∧ (toFr x.snd.fst.fst).den.length ≤ (1000000 : Nat)) ∧ ∀ (r : El Ty.un × Els [Ty.bo]), r = ((), true, ()) → (r.snd.fst = true → (toFrL x.fst.snd.fst = toFr x.snd.fst.snd.fst ∧ (toFr x.snd.fst.snd.fst).num.length ≤ (1000000 : Nat) ∧ (toFr x.snd.fst.snd.fst).den.length ≤ (1000000 : Nat)) ∧ ∀ (r : El Ty.un × Els [Ty.bo]), r = ((), true, ()) → r.snd = (true, ())) ∧ (r.snd.fst = false → (false, ()) = (true, ()))) := by kernel_rfl
theorem m_kKeptG (y : El (.un)) (x : Els [tGL, tG]) (h2 : wfE (.un) y) (h3 : wfEs [tGL, tG] x) (h4 : toGaL x.1 = toGa x.2.1 ∧ Few (toFr x.2.1.1) ∧ Few (toFr x.2.1.2.1)) :
  ((toFrL x.fst.fst = toFr x.snd.fst.fst ∧ (toFr x.snd.fst.fst).num.length ≤ (1000000 : Nat) ∧ (toFr x.snd.fst.fst).den.length ≤ (1000000 : Nat)) ∧ ∀ (r : El Ty.un × Els [Ty.bo]), r = ((), true, ()) → (r.snd.fst = true → (toFrL x.fst.snd.fst = toFr x.snd.fst.snd.fst ∧ (toFr x.snd.fst.snd.fst).num.length ≤ (1000000 : Nat) ∧ (toFr x.snd.fst.snd.fst).den.length ≤ (1000000 : Nat)) ∧ ∀ (r : El Ty.un × Els [Ty.bo]), r = ((), true, ()) → r.snd = (true, ())) ∧ (r.snd.fst = false → (false, ()) = (true, ()))) := by
  obtain ⟨he, h5, h6⟩ := h4
  have e1 : toFrL x.1.1 = toFr x.2.1.1 := congrArg Ga.re he
  have e2 : toFrL x.1.2.1 = toFr x.2.1.2.1 := congrArg Ga.im he
  refine ⟨⟨e1, h5⟩, ?_⟩
  rintro _ rfl
  exact ⟨fun _ => ⟨⟨e2, h6⟩, by rintro _ rfl; rfl⟩, fun h => by cases h⟩
set_option maxRecDepth 100000 in
theorem fo_kKeptG : FnOk Tryz.prog 56 sp_kKeptG := fnOk_of (C := c_kKeptG) iv_kKeptG Tryz.func56 rfl (by kernel_rfl) tys_ok (prims_cons (spec_prim fo_kKept) prims_nil) mixed_ (Nat.le_refl _) rfl fun y x h1 h2 h3 h4 =>
  Eq.mpr (w_kKeptG y x) (m_kKeptG y x h2 h3 h4)
end Go.Proofs.YtifonmdcicegdaaGreat

namespace Go.Proofs.YtifonmdcicegdaaGreat
open Go Go.RowKit

/-- the cells of fractions side by side -/
def cellsF : List (Adr × Fr) → List Value
  | [] => []
  | (p, f) :: L => .bool f.neg :: .slice p.A f.num.length p.c :: .slice p.B f.den.length p.d :: cellsF L
theorem cellsF_len : ∀ L : List (Adr × Fr), (cellsF L).length = L.length * 3
  | [] => rfl
  | (p, f) :: L => by simp only [cellsF, List.length_cons, cellsF_len L]; omega
theorem cellsF_app : ∀ L M : List (Adr × Fr), cellsF (L ++ M) = cellsF L ++ cellsF M
  | [], M => rfl
  | (p, f) :: L, M => by simp only [List.cons_append, cellsF, cellsF_app L M]
theorem cellsF_at : ∀ (L : List (Adr × Fr)) (i : Nat) (p : Adr) (f : Fr), L[i]? = some (p, f) → (cellsF L)[i * 3]? = some (.bool f.neg) ∧ (cellsF L)[i * 3 + 1]? = some (.slice p.A f.num.length p.c) ∧ (cellsF L)[i * 3 + 2]? = some (.slice p.B f.den.length p.d)
  | [], i, p, f, h => by simp at h
  | (q, g) :: L, 0, p, f, h => by simp at h; obtain ⟨rfl, rfl⟩ := h; exact ⟨rfl, rfl, rfl⟩
  | (q, g) :: L, i + 1, p, f, h => by
    obtain ⟨h1, h2, h3⟩ := cellsF_at L i p f (by simpa using h)
    rw [show (i + 1) * 3 = i * 3 + 1 + 1 + 1 by omega]
    simp only [cellsF, List.getElem?_cons_succ]
    exact ⟨h1, h2, h3⟩
theorem cellsF_one (L : List (Adr × Fr)) : ∀ u ∈ cellsF L, u.oneCell' = true := by
  induction L with
  | nil => intro u hu; simp [cellsF] at hu
  | cons x L ih =>
    intro u hu
    obtain ⟨p, f⟩ := x
    simp only [cellsF, List.mem_cons] at hu
    rcases hu with rfl | rfl | rfl | hu
    · rfl
    · rfl
    · rfl
    · exact ih u hu
/-- a block or row holds them -/
def CellsAt (g : Nat) (L : List (Adr × Fr)) (w : World) : Prop := ∀ j u, (cellsF L)[j]? = some u → w.cell? ⟨g, j, none⟩ = some u
theorem CellsAt.ext {g : Nat} {L : List (Adr × Fr)} {w w' : World} (h : CellsAt g L w) (x : Ext w w') : CellsAt g L w' := fun j u hu => x.cell (h j u hu)
/-- the list's fractions, by an index over 2 n rows -/
def rowA (L : List (Adr × Fr)) (j : Nat) : Option Addr := if j % 2 = 0 then ((L[j / 2]?).map (·.1.A)).getD none else ((L[j / 2]?).map (·.1.B)).getD none
def rowC (L : List (Adr × Fr)) (j : Nat) : Nat := if j % 2 = 0 then ((L[j / 2]?).map (·.1.c)).getD 0 else ((L[j / 2]?).map (·.1.d)).getD 0
def rowX (L : List (Adr × Fr)) (j : Nat) : List Int := if j % 2 = 0 then ((L[j / 2]?).map (·.2.num)).getD [] else ((L[j / 2]?).map (·.2.den)).getD []
theorem row_even {L : List (Adr × Fr)} {i : Nat} {p : Adr} {f : Fr} (h : L[i]? = some (p, f)) : rowA L (2 * i) = p.A ∧ rowC L (2 * i) = p.c ∧ rowX L (2 * i) = f.num := by
  have e1 : 2 * i % 2 = 0 := by omega
  have e2 : 2 * i / 2 = i := by omega
  simp [rowA, rowC, rowX, e1, e2, h]
theorem row_odd {L : List (Adr × Fr)} {i : Nat} {p : Adr} {f : Fr} (h : L[i]? = some (p, f)) : rowA L (2 * i + 1) = p.B ∧ rowC L (2 * i + 1) = p.d ∧ rowX L (2 * i + 1) = f.den := by
  have e1 : (2 * i + 1) % 2 = 1 := by omega
  have e2 : (2 * i + 1) / 2 = i := by omega
  simp [rowA, rowC, rowX, e1, e2, h]
/-- rows picked out of a state's -/
def pick {α : Type} (R : List α) : List Nat → List α
  | [] => []
  | i :: I => match R[i]? with
    | some x => x :: pick R I
    | none => pick R I
theorem pick_at {α : Type} {R : List α} : ∀ (I : List Nat) (k : Nat) (x : α), (∀ i ∈ I, i < R.length) → (pick R I)[k]? = some x → ∃ i, I[k]? = some i ∧ R[i]? = some x
  | [], k, x, _, h => by simp [pick] at h
  | i :: I, k, x, hI, h => by
    have hi := hI i (by simp)
    have e : R[i]? = some R[i] := List.getElem?_eq_getElem hi
    simp only [pick, e] at h
    cases k with
    | zero => simp at h; subst h; exact ⟨i, rfl, e⟩
    | succ k =>
      obtain ⟨j, h1, h2⟩ := pick_at I k x (fun j hj => hI j (by simp [hj])) (by simpa using h)
      exact ⟨j, by simpa using h1, h2⟩
section
variable {wb w0 w w' : World} {row : Option Nat} {V : List (Nat × List Value)} {R : List (Adr × Fr)}
end
section
variable {wb w0 w w' : World} {row : Option Nat} {V : List (Nat × List Value)} {R : List (Adr × Fr)}
theorem Sta.rg (S : Sta wb w0 row V R w) (i : Nat) {p q : Adr} {a : Ga} (hi : R[i]? = some (p, a.re)) (hj : R[i + 1]? = some (q, a.im)) : RG w p q a := ⟨S.rf i hi, S.rf (i + 1) hj⟩
end
theorem news_of (X : World) (M : List (Adr × Fr)) (t : TypeId) : ∀ j u, (cellsF M)[j]? = some u → (X.alloc (.cells (cellsF M).toArray t)).cell? ((⟨X.heap.size, 0, none⟩ : Addr).add j) = some u := fun j u hu => by
  rw [add_plain0]; exact (Var.new X (cellsF M) t).at_ j u hu
/-- an append of fractions at a step of a drawn region, guarded or not -/
theorem step_appF {ops : Array Oper} {o : Oper} {a : Act} {w : World} {K : Act → World → Prop} {Q : Exit → Act → World → Prop} {E : Prop} (hgd : Region.wanted o (yielded ops a.tmps) = true) (s x : Operand)
    (ho : o.op = .call { callee := .builtin .append, args := #[s, x], argTypes := #[26, 26] })
    (base : Nat) (v : Value) (n : Nat) (L M : List (Adr × Fr)) (hs : a.eval s = v) (hown : w.ownsRow base 24 3 v n (cellsF L))
    (ad : Addr) (m c : Nat) (hx : a.eval x = .slice (some ad) m c) (hl : M.length = m) (hnews : ∀ j u, (cellsF M)[j]? = some u → w.cell? (ad.add j) = some u)
    (hm : 0 < m) (hm2 : m ≤ 1000000) (hn : n ≤ 1000000) (hbase : base ≤ w.heap.size)
    (h : ∀ g cap w', w'.ownsRow base 24 3 (.slice (some ⟨g, 0, none⟩) (n + m) cap) (n + m) (cellsF (L ++ M)) → w.grownBy w' v.ownBlock → (v.ownBlock = some g ∨ g = w.heap.size) → g < w'.heap.size → K (a.put o.dst (.slice (some ⟨g, 0, none⟩) (n + m) cap)) w') :
    if Region.wanted o (yielded ops a.tmps) = true then Oper.wp Tryz.prog o a w K Q else E := by
  obtain ⟨i0, hi, hz0, hz1, hz2⟩ := info_parts info_ratio
  rw [if_pos hgd]
  refine wp_append_lies w s x 26 ho base 24 i0 _ 3 56 Tryz.underlying26 hi hz0 hz1 hz2 rfl (by decide) v n _ hs hown ad m c (cellsF M) hx (by rw [cellsF_len, hl]) hnews (cellsF_one M) hm (by unfold maxLen; omega) (by omega) hbase w.heap.size rfl ?_
  intro g cap w' h1 h2 h3 h4
  exact h g cap w' (by rw [cellsF_app]; exact h1) h2 h3 h4

end Go.Proofs.YtifonmdcicegdaaGreat

