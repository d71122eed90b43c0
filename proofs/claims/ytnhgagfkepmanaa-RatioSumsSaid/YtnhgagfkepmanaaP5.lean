/- Sums of lists of fractions: plain. -/
import Derived.Test.YtnhgagfkepmanaaP4
namespace Go.Proofs.Ytnhgagfkepmanaa

/-- the sum from the k-th fraction of n on: it, its error, and where -/
def sumFrom (L : Nat → Fr) (q : Rat) (k : Nat) : Nat → Fr × Int × Int
  | 0 => (enc q, 0, 0)
  | d + 1 => if lng (q + (L k).q) = true then (Fr.zero, 3, (k : Int)) else sumFrom L (q + (L k).q) (k + 1) d
/-- the first that may not be, from the k-th on; else the sum -/
def fsumFrom (L : Nat → Fr) (n k : Nat) : Nat → Fr × Int × Int
  | 0 => sumFrom L 0 0 n
  | d + 1 => if fchk (L k) ≠ 0 then (Fr.zero, fchk (L k), (k : Int)) else fsumFrom L n (k + 1) d
/-- what Sum tells of n fractions -/
def fsum (L : Nat → Fr) (n : Nat) : Fr × Int × Int := fsumFrom L n 0 n
theorem fsum_bad (L : Nat → Fr) (n : Nat) : ∀ d k, k + d = n → ∀ t, fsumFrom L n k d = t → fchk (L k) ≠ 0 → 0 < d → t = (Fr.zero, fchk (L k), (k : Int))
  | 0, _, _, _, _, _, h => absurd h (Nat.lt_irrefl 0)
  | _ + 1, _, _, _, e, h, _ => by rw [← e]; exact if_pos h
theorem fsum_next (L : Nat → Fr) (n k d : Nat) (h : fchk (L k) = 0) : fsumFrom L n k (d + 1) = fsumFrom L n (k + 1) d := if_neg (by omega)
theorem sum_bad (L : Nat → Fr) (q : Rat) (k d : Nat) (h : lng (q + (L k).q) = true) : sumFrom L q k (d + 1) = (Fr.zero, 3, (k : Int)) := if_pos h
theorem sum_next (L : Nat → Fr) (q : Rat) (k d : Nat) (h : ¬ lng (q + (L k).q) = true) : sumFrom L q k (d + 1) = sumFrom L (q + (L k).q) (k + 1) d := if_neg h
theorem not_lng_zero : ¬ lng 0 = true := lng_of (by rw [show (0 : Rat).num.natAbs = 0 from rfl, wd_zero]; decide) (by rw [show (0 : Rat).den = 1 from rfl, wd_one]; decide)

end Go.Proofs.Ytnhgagfkepmanaa
