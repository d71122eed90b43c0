/- It is proved here that RatioMakes returns true for every input, and that every argument reads behind the call as it read ahead of it; there is no condition. -/
import Derived.Test.YtnhgagfkepmanaaRows
import Derived.Test.YtnhgagfkepmanaaL1
import Derived.ProofKit
import Derived.OpenShut
import Derived.ChangeOld
import Derived.Below
import Derived.Lib.SmallJoins
namespace Go.Proofs.Ytnhgagfkepmanaa
open Go.ChangeShapes Go.WideShapes Go.ChangeAt Go.RowKit Go.Joins
set_option linter.unusedVariables false

theorem mk_own : ownKnob Try.prog.godebug = none := by kernel_rfl
theorem mk_laidOut : laidOutB Try.prog = true := by kernel_rfl

/-- a slice of words that came in -/
theorem rd_in {H : Type} {enc : TypeId × Value → H} {W : World} {c : Value} {fuel : Nat} {y : DataW H × List MemPlace} (hf : DataW.trod enc Try.prog W 0 (fun _ => true) true fuel 22 [c] = some y) :
    ∃ (A : Option Addr) (l cap : Nat) (xs : List Int), c = .slice A l cap ∧ xs.length = l ∧ Rd W A cap xs ∧ Wf xs := by
  rcases open_ints Try.underlying22 Try.underlying52 (by kernel_rfl) hf with ⟨hcs, _⟩ | ⟨x, l, cap, zs, hcs, _, hl, hm, hz, _, hcell, hwz⟩
  · simp at hcs
    subst hcs
    exact ⟨none, 0, 0, [], rfl, rfl, Rd.nil W, wf_nil⟩
  · simp at hcs
    subst hcs
    simp at hz
    simp only [maxLen] at hm
    have hlen : (zs.take l).length = l := by rw [List.length_take]; omega
    refine ⟨some x, l, cap, zs.take l, rfl, hlen, ⟨by omega, by omega, (fun e => by cases e), fun j hj => ⟨x, rfl, ?_⟩⟩, ?_⟩
    · rw [hlen] at hj
      rw [nth_take _ _ _ hj]
      exact hcell j (by omega)
    · intro n hn
      have := bounds_u32 (hwz n (List.mem_of_mem_take hn))
      omega

set_option maxRecDepth 100000 in
theorem mk_lifted (os : Os) (started : os.Started) (H : Type) (enc : TypeId × Value → H) :
    ReturnsInHanded {} Try.checked os 3 .any (Rows.ratioMakesSpec.pre6 enc Try.prog Try.f3 Rows.ratioMakesRow.domain false) (Rows.ratioMakesSpec.post enc Try.prog Try.f3 false true false false) := by
  refine returnsInHanded_of_change (C := Try.checked) mk_own started (by kernel_rfl) Try.func3
    (ChangeSpec.witness6 (enc := enc) (C := Try.checked) false ⟨#[], #[.agg #[.bool false, .slice none 0 0], .agg #[.bool false, .slice none 0 0], .int .i64 0, .int .i64 0], []⟩ 8 (by kernel_rfl) (by kernel_rfl) (by kernel_rfl) (by kernel_rfl)) ?_
  intro W base args ds gs before hval0 hW hcnd _
  have hval : ∀ (j : Nat) t v, Try.f3.params[j]? = some t → args[j]? = some v → Value.okWide Try.prog W .any base t v := hval0
  have hW' := hW
  obtain ⟨p, q, hA0, hV, rfl, hfz, hnd⟩ := hW
  have hA : DataW.TrodAll enc Try.prog W 0 (fun _ => true) true Try.f3.params.toList args.toList ds p := hA0
  rw [Try.params3] at hA hval
  obtain ⟨v0, vs0, d0, ds0, p0, q0, hargs, rfl, rfl, h0, r0⟩ := trodAll_cons hA
  obtain ⟨v1, vs1, d1, ds1, p1, q1, rfl, rfl, rfl, h1, r1⟩ := trodAll_cons r0
  obtain ⟨v2, vs2, d2, ds2, p2, q2, rfl, rfl, rfl, h2, r2⟩ := trodAll_cons r1
  obtain ⟨v3, vs3, d3, ds3, p3, q3, rfl, rfl, rfl, h3, r3⟩ := trodAll_cons r2
  obtain ⟨rfl, rfl, rfl⟩ := trodAll_nil r3
  obtain rfl : args = #[v0, v1, v2, v3] := by cases args; simp_all
  obtain ⟨rfl, rfl⟩ := trodVars_none hV
  have k0 := h0
  have k1 := h1
  have lt0 : ∀ x ∈ p0, x.block < W.heap.size := by obtain ⟨m, hm⟩ := k0; exact DataW.trod_lt m _ _ _ hm
  have lt1 : ∀ x ∈ p1, x.block < W.heap.size := by obtain ⟨m, hm⟩ := k1; exact DataW.trod_lt m _ _ _ hm
  obtain ⟨b0, c0, y0, z0, m0, hv0, _, _, e0, g0⟩ := open_agg2 Try.underlying24 (by kernel_rfl) (by kernel_rfl) (hval 0 24 v0 rfl rfl) h0
  obtain ⟨b1, c1, y1, z1, m1, hv1, _, _, e1, g1⟩ := open_agg2 Try.underlying24 (by kernel_rfl) (by kernel_rfl) (hval 1 24 v1 rfl rfl) h1
  obtain ⟨s0, hs0, _⟩ := DataW.trod_bool Try.underlying4 e0
  obtain ⟨s1, hs1, _⟩ := DataW.trod_bool Try.underlying4 e1
  obtain ⟨A0, l0, cap0, xs, hc0, hl0, hR0, hw0⟩ := rd_in g0
  obtain ⟨A1, l1, cap1, ys, hc1, hl1, hR1, hw1⟩ := rd_in g1
  obtain ⟨a2, rfl, rfl, rfl, w2⟩ := open_int Try.underlying2 (hval 2 2 v2 rfl rfl) h2
  obtain ⟨a3, rfl, rfl, rfl, w3⟩ := open_int Try.underlying2 (hval 3 2 v3 rfl rfl) h3
  simp at hs0 hs1
  subst hs0 hs1 hc0 hc1 hv0 hv1
  clear hA0 hval0
  refine (ratioMakes_any s0 s1 A0 A1 xs ys cap0 cap1 l0 l1 a2 a3 W hR0 hR1 hw0 hw1 hl0 hl1 (bounds_i64 w2).1 (bounds_i64 w2).2 (bounds_i64 w3).1 (bounds_i64 w3).2).mono fun e W' ⟨he, bel⟩ => ?_
  subst he
  exact ⟨_, rfl, _, _, _, [], _, [], hW', trodAll_mk1 (shut_bool Try.underlying4 _), (trodAll_cons_mk (Below.trod mk_laidOut (by kernel_rfl) (of_decide_eq_true (by kernel_rfl)) k0 bel lt0) (trodAll_cons_mk (Below.trod mk_laidOut (by kernel_rfl) (of_decide_eq_true (by kernel_rfl)) k1 bel lt1) (trodAll_cons_mk (shut_int Try.underlying2 w2) (trodAll_cons_mk (shut_int Try.underlying2 w3) trodAll_mk0)))), rfl, Below.frame bel _, fun h => by cases h⟩

theorem mk_over : Rows.ratioMakesRow.holds Try.pinned (OpenSpec.ofChange Rows.ratioMakesSpec) :=
  OpenClaim.holds_of_wide 3 Try.f3 rfl rfl rfl rfl rfl rfl rfl ⟨rfl, rfl, rfl, rfl, rfl⟩ rfl rfl rfl rfl rfl (by kernel_rfl) Try.func3 (by kernel_rfl)
    (of_decide_eq_true (by kernel_rfl)) (by unfold Func.isWrapper; first | (rw [if_pos (by decide +kernel)]; kernel_rfl) | (rw [if_neg (by decide +kernel)]; exact ⟨rfl, rfl⟩))
    (fun os started H enc _ => mk_lifted os started H enc)

/-- the statement -/
theorem ratioMakes_proved : Rows.RatioMakesSaid := mk_over
#print axioms ratioMakes_proved
end Go.Proofs.Ytnhgagfkepmanaa
