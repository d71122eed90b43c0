/- bits.LeadingZeros32. -/
import Derived.Test.YtnhgagfkepmanaaN7
import Derived.Test.YtnhgagfkepmanaaSh1
import Derived.Lib.ItoaNum
namespace Go.Proofs.Ytnhgagfkepmanaa
open Go Go.RowKit

theorem lz_any (x : Nat) (w : World) (hx0 : 0 < x) (hx1 : x < 4294967296) :
    Calls Try.prog 72 #[.int .u32 x] w fun e w' => ∃ n : Nat, n ≤ 31 ∧ e = .returned (.int .i64 n) ∧ 2147483648 ≤ x * 2 ^ n ∧ x * 2 ^ n < 4294967296 ∧ w = w' := by
  refine (Sh.bits_LeadingZeros32 (x : Int) w (by omega) (by omega)).mono ?_
  rintro e w' ⟨rfl, rfl⟩
  rw [Int.toNat_natCast]
  obtain ⟨h1, h2, h3⟩ := Lib.bitLenAux_bounds 64 x (by omega) (by omega)
  have hL : Lib.bitLenAux 64 x ≤ 32 := Lib.bitLen_le x 32 (by omega) (by omega)
  refine ⟨32 - Lib.bitLenAux 64 x, by omega, ?_, ?_, ?_, rfl⟩
  · show Ending.returned (.int .i64 (32 - (Lib.bitLenAux 64 x : Int))) = _
    rw [Int.natCast_sub hL]; rfl
  · have e : 2 ^ (Lib.bitLenAux 64 x - 1) * 2 ^ (32 - Lib.bitLenAux 64 x) = 2147483648 := by
      rw [← Nat.pow_add, show Lib.bitLenAux 64 x - 1 + (32 - Lib.bitLenAux 64 x) = 31 by omega]
    have := Nat.mul_le_mul_right (2 ^ (32 - Lib.bitLenAux 64 x)) h2
    omega
  · have e : 2 ^ (Lib.bitLenAux 64 x) * 2 ^ (32 - Lib.bitLenAux 64 x) = 4294967296 := by
      rw [← Nat.pow_add, show Lib.bitLenAux 64 x + (32 - Lib.bitLenAux 64 x) = 32 by omega]
    have := Nat.mul_lt_mul_of_pos_right h3 (Nat.pow_pos (n := 32 - Lib.bitLenAux 64 x) (show 0 < 2 by omega))
    omega

end Go.Proofs.Ytnhgagfkepmanaa
