/- A word of a quotient, guessed out of the first words: plain. -/
import Derived.Test.YtnhgagfkepmanaaP1
namespace Go.Proofs.Ytnhgagfkepmanaa

/-- what a guess knows: U is (top, u2, ..), D is (v1, v2, ..), P what stands behind -/
structure Guess (U D top u2 v1 v2 P Ul Dl : Int) : Prop where
  hU : U = (top * 4294967296 + u2) * P + Ul
  hD : D = (v1 * 4294967296 + v2) * P + Dl
  ul : 0 ≤ Ul ∧ Ul < P
  dl : 0 ≤ Dl ∧ Dl < P
  u2 : 0 ≤ u2 ∧ u2 < 4294967296
  v2 : 0 ≤ v2 ∧ v2 < 4294967296
  v1 : 2147483648 ≤ v1 ∧ v1 < 4294967296
  top : 0 ≤ top
  lt : U < D * 4294967296

section
variable {U D top u2 v1 v2 P Ul Dl : Int} (g : Guess U D top u2 v1 v2 P Ul Dl)
include g

theorem Guess.hP : 0 < P := by have := g.ul; omega
theorem Guess.topLt : top < (v1 + 1) * 4294967296 := by
  have hP := g.hP
  have h1 : U < (v1 + 1) * 4294967296 * (P * 4294967296) := by
    have h : D < (v1 * 4294967296 + 4294967296) * P := by
      have a : (v1 * 4294967296 + v2 + 1) * P ≤ (v1 * 4294967296 + 4294967296) * P := Int.mul_le_mul_of_nonneg_right (by have := g.v2; omega) (by omega)
      rw [Int.add_mul _ 1, Int.one_mul] at a
      have := g.hD; have := g.dl; omega
    have e : (v1 + 1) * 4294967296 * (P * 4294967296) = (v1 * 4294967296 + 4294967296) * P * 4294967296 := by
      rw [← Int.mul_assoc, Int.add_mul, Int.one_mul]
    rw [e]
    have := g.lt
    omega
  have h2 : top * (P * 4294967296) ≤ U := by
    have a : top * 4294967296 * P ≤ (top * 4294967296 + u2) * P := Int.mul_le_mul_of_nonneg_right (by have := g.u2; omega) (by omega)
    rw [show top * (P * 4294967296) = top * 4294967296 * P by rw [Int.mul_comm P, Int.mul_assoc]]
    have := g.hU; have := g.ul; omega
  exact Int.lt_of_mul_lt_mul_right (a := P * 4294967296) (by omega) (by omega)
theorem Guess.below (q : Int) (h : (top * 4294967296 + u2 + 1) ≤ q * (v1 * 4294967296 + v2)) (hq : 0 ≤ q) : U < q * D := by
  have hP := g.hP
  have h1 : (top * 4294967296 + u2 + 1) * P ≤ q * (v1 * 4294967296 + v2) * P := Int.mul_le_mul_of_nonneg_right h (by omega)
  rw [Int.add_mul _ 1, Int.one_mul, Int.mul_assoc q] at h1
  have h2 : q * D = q * ((v1 * 4294967296 + v2) * P) + q * Dl := by rw [g.hD, Int.mul_add]
  have h3 : 0 ≤ q * Dl := Int.mul_nonneg hq g.dl.1
  have := g.hU; have := g.ul; omega
theorem Guess.above (q : Int) (h : q * (v1 * 4294967296 + v2) ≤ top * 4294967296 + u2) (hq : 0 ≤ q) (hq1 : q ≤ 4294967296) : q * D ≤ U + D := by
  have hP := g.hP
  have h1 : q * (v1 * 4294967296 + v2) * P ≤ (top * 4294967296 + u2) * P := Int.mul_le_mul_of_nonneg_right h (by omega)
  rw [Int.mul_assoc q] at h1
  have h2 : q * D = q * ((v1 * 4294967296 + v2) * P) + q * Dl := by rw [g.hD, Int.mul_add]
  have h3 : q * Dl ≤ 4294967296 * P := Int.mul_le_mul hq1 (by have := g.dl; omega) g.dl.1 (by omega)
  have h4 : 4294967296 * P ≤ (v1 * 4294967296 + v2) * P := Int.mul_le_mul_of_nonneg_right (by have := g.v1; have := g.v2; omega) (by omega)
  have := g.hU; have := g.hD; have := g.ul; have := g.dl; omega
/-- the first guess -/
theorem Guess.begin : U < (top / v1 + 1) * D ∧ top / v1 ≤ 4294967297 ∧ 0 ≤ top / v1 ∧ top / v1 * v1 + top % v1 = top ∧ 0 ≤ top % v1 ∧ top % v1 < 4294967296 := by
  have hv := g.v1
  have e := Int.mul_ediv_add_emod top v1
  have m0 := Int.emod_nonneg top (show v1 ≠ 0 by omega)
  have m1 := Int.emod_lt_of_pos top (show 0 < v1 by omega)
  have q0 : 0 ≤ top / v1 := Int.ediv_nonneg g.top (by omega)
  refine ⟨g.below _ ?_ (by omega), ?_, q0, by rw [Int.mul_comm]; exact e, m0, by omega⟩
  · have h : (top + 1) * 4294967296 ≤ (top / v1 + 1) * v1 * 4294967296 := by
      apply Int.mul_le_mul_of_nonneg_right _ (by omega)
      rw [Int.add_mul, Int.one_mul, Int.mul_comm]
      omega
    have h2 : 0 ≤ (top / v1 + 1) * v2 := Int.mul_nonneg (by omega) g.v2.1
    rw [Int.mul_add, ← Int.mul_assoc]
    have := g.u2
    omega
  · have := g.topLt
    have h : top / v1 < 4294967298 := Int.ediv_lt_of_lt_mul (by omega) (by omega)
    omega
/-- a guess that is too great -/
theorem Guess.less (q r : Int) (hq : 0 ≤ q) (he : q * v1 + r = top) (h : 4294967296 ≤ q ∨ r * 4294967296 + u2 < q * v2) : U < q * D := by
  rcases h with h | h
  · have hD : 0 ≤ D := by
      have := g.hD; have := g.dl
      have h : 0 ≤ (v1 * 4294967296 + v2) * P := Int.mul_nonneg (by have := g.v1; have := g.v2; omega) (by have := g.hP; omega)
      omega
    have h1 : 4294967296 * D ≤ q * D := Int.mul_le_mul_of_nonneg_right h hD
    have := g.lt
    omega
  · refine g.below q ?_ hq
    have e : q * (v1 * 4294967296 + v2) = q * v1 * 4294967296 + q * v2 := by rw [Int.mul_add, ← Int.mul_assoc]
    rw [e, show q * v1 = top - r by omega]
    omega
/-- a guess that is good -/
theorem Guess.good (q r : Int) (hq : 0 ≤ q) (hq1 : q < 4294967296) (he : q * v1 + r = top) (h : q * v2 ≤ r * 4294967296 + u2) : q * D ≤ U + D := by
  refine g.above q ?_ hq (by omega)
  have e : q * (v1 * 4294967296 + v2) = q * v1 * 4294967296 + q * v2 := by rw [Int.mul_add, ← Int.mul_assoc]
  rw [e, show q * v1 = top - r by omega]
  omega
/-- a guess behind which the rest is too great -/
theorem Guess.stop (q r : Int) (hq : 0 ≤ q) (hq1 : q ≤ 4294967296) (he : q * v1 + r = top) (h : 4294967296 ≤ r) : q < 4294967296 ∧ q * D ≤ U + D := by
  have hv2 := g.v2
  have h1 : q * v2 ≤ 4294967296 * 4294967296 := Int.mul_le_mul hq1 (by omega) hv2.1 (by omega)
  refine ⟨?_, g.above q ?_ hq (by omega)⟩
  · have := g.topLt
    have : q ≠ 4294967296 := by
      intro e
      subst e
      omega
    omega
  · have e : q * (v1 * 4294967296 + v2) = q * v1 * 4294967296 + q * v2 := by rw [Int.mul_add, ← Int.mul_assoc]
    rw [e, show q * v1 = top - r by omega]
    have := g.u2
    omega
end

/-- the words of U and D give a guess all that it wants -/
theorem Guess.of_words (us vs : List Int) (n : Nat) (hu : Wf us) (hv : Wf vs) (htop : 2147483648 ≤ nth vs (n + 1)) (hlt : V us (n + 3) < V vs (n + 2) * 4294967296) :
    Guess (V us (n + 3)) (V vs (n + 2)) (nth us (n + 2) * 4294967296 + nth us (n + 1)) (nth us n) (nth vs (n + 1)) (nth vs n) (pw n) (V us n) (V vs n) where
  hU := by
    rw [V_succ, V_succ, V_succ, pw_succ (n + 1), pw_succ n]
    simp only [Int.add_mul, Int.mul_assoc]
    omega
  hD := by
    rw [V_succ, V_succ, pw_succ n]
    simp only [Int.add_mul, Int.mul_assoc]
    omega
  ul := ⟨V_nonneg hu n, V_lt hu n⟩
  dl := ⟨V_nonneg hv n, V_lt hv n⟩
  u2 := nth_wf hu n
  v2 := nth_wf hv n
  v1 := ⟨htop, (nth_wf hv (n + 1)).2⟩
  top := by have := nth_wf hu (n + 2); have := nth_wf hu (n + 1); omega
  lt := hlt

end Go.Proofs.Ytnhgagfkepmanaa
