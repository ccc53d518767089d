/- hash.Share: a number below another one. -/
import Derived.Test.YtkalbiihehcjkaaBofR
import Derived.Shelf.Bits.Mul64
set_option linter.unusedVariables false
namespace Go.Proofs.Ytkalbiihehcjkaa.Bof
open Go.RowKit Go.Proofs.Ytkalbiihehcjkaa
attribute [local go_sem] K.max2_int K.min2_int K.max_two K.min_two K.max_three K.min_three
set_option linter.unusedSimpArgs false
/-- A number below n. -/
def shr (x n : Int) : Int := x / 4294967296 * n / 4294967296
theorem shr_in {x n : Int} (h0 : 0 ≤ x) (h1 : x < 18446744073709551616) (hn : 1 ≤ n) : 0 ≤ shr x n ∧ shr x n < n := by
  unfold shr
  have a0 : 0 ≤ x / 4294967296 := by omega
  have a1 : x / 4294967296 ≤ 4294967295 := by omega
  have b0 : 0 ≤ x / 4294967296 * n := Int.mul_nonneg a0 (by omega)
  have b1 : x / 4294967296 * n ≤ 4294967295 * n := Int.mul_le_mul_of_nonneg_right a1 (by omega)
  omega
theorem shr_mono {x y n : Int} (h : x ≤ y) (hn : 1 ≤ n) : shr x n ≤ shr y n := by
  unfold shr
  have : x / 4294967296 * n ≤ y / 4294967296 * n := Int.mul_le_mul_of_nonneg_right (by omega) (by omega)
  omega
end Go.Proofs.Ytkalbiihehcjkaa.Bof
