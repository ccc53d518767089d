/- hash.Share: a number below another one. -/
import Derived.Test.YtpafbjffecpdmaaBofR
import Derived.Shelf.Bits.Mul64
set_option linter.unusedVariables false
namespace Go.Proofs.Ytpafbjffecpdmaa.Bof
open Go.RowKit Go.Proofs.Ytpafbjffecpdmaa
attribute [local go_sem] K.max2_int K.min2_int K.max_two K.min_two K.max_three K.min_three
set_option linter.unusedSimpArgs false
set_option maxRecDepth 100000 in
set_option maxHeartbeats 1000000 in
theorem mul64_n (x y : Nat) (hx : x < 18446744073709551616) (hy : y < 18446744073709551616) (w : World) :
    Calls Try.prog 72 #[.int .u64 x, .int .u64 y] w fun e w' => e = .returned (.tuple #[.int .u64 ((x * y / 18446744073709551616 : Nat) : Int), .int .u64 ((x * y % 18446744073709551616 : Nat) : Int)]) ∧ w' = w := by
  obtain ⟨bd, bt, bw, hhi⟩ := Lib.mul64_hi x y hx hy
  have ba := Lib.half_mul_le (a := x / 4294967296) (b := y / 4294967296) (by omega) (by omega)
  have bb := Lib.half_mul_le (a := x / 4294967296) (b := y % 4294967296) (by omega) (by omega)
  have bc := Lib.half_mul_le (a := x % 4294967296) (b := y / 4294967296) (by omega) (by omega)
  have ba' : x / 4294967296 * (y / 4294967296) < 18446744073709551616 := by omega
  have bb' : x / 4294967296 * (y % 4294967296) < 18446744073709551616 := by omega
  have bc' : x % 4294967296 * (y / 4294967296) < 18446744073709551616 := by omega
  have bh1 : x / 4294967296 * (y / 4294967296) + (x / 4294967296 * (y % 4294967296) + x % 4294967296 * (y % 4294967296) / 4294967296) / 4294967296 < 18446744073709551616 := by omega
  have bh : x / 4294967296 * (y / 4294967296) + (x / 4294967296 * (y % 4294967296) + x % 4294967296 * (y % 4294967296) / 4294967296) / 4294967296 + ((x / 4294967296 * (y % 4294967296) + x % 4294967296 * (y % 4294967296) / 4294967296) % 4294967296 + x % 4294967296 * (y / 4294967296)) / 4294967296 < 18446744073709551616 := by omega
  go_enter Try.func72, Try.ntmps72
  go_wp2
  simp only [Mul64.maskN x hx, Mul64.maskN y hy, Mul64.divN, Mul64.mulN, Mul64.addN, Mul64.wrapN _ bd, Mul64.wrapN _ bb', Mul64.wrapN _ bt, Mul64.maskN _ bt, Mul64.wrapN _ bc', Mul64.wrapN _ bw, Mul64.wrapN _ ba', Mul64.wrapN _ bh1, Mul64.wrapN _ bh, Mul64.wrapM (x * y)]
  rw [hhi]
  go_ret2
  exact ⟨rfl, rfl⟩
/-- A number below n. -/
def shr (x n : Int) : Int := x / 4294967296 * n / 4294967296
theorem shr_in {x n : Int} (h0 : 0 ≤ x) (h1 : x < 18446744073709551616) (hn : 1 ≤ n) : 0 ≤ shr x n ∧ shr x n < n := by
  unfold shr
  have a0 : 0 ≤ x / 4294967296 := by omega
  have a1 : x / 4294967296 ≤ 4294967295 := by omega
  have b0 : 0 ≤ x / 4294967296 * n := Int.mul_nonneg a0 (by omega)
  have b1 : x / 4294967296 * n ≤ 4294967295 * n := Int.mul_le_mul_of_nonneg_right a1 (by omega)
  omega
theorem shr_mono {x y n : Int} (h : x ≤ y) (hn : 1 ≤ n) : shr x n ≤ shr y n := by
  unfold shr
  have : x / 4294967296 * n ≤ y / 4294967296 * n := Int.mul_le_mul_of_nonneg_right (by omega) (by omega)
  omega
theorem mul64_c (X y : Int) (w : World) (hX0 : 0 ≤ X) (hX1 : X < 4294967296) (hy0 : 1 ≤ y) (hy1 : y ≤ 1048576) :
    Calls Try.prog 72 #[.int .u64 (X * 4294967296), .int .u64 y] w fun e w' => (∃ lo, e = .returned (.tuple #[.int .u64 (X * y / 4294967296), .int .u64 lo])) ∧ w' = w := by
  obtain ⟨X, rfl⟩ := Int.eq_ofNat_of_zero_le hX0
  obtain ⟨y, rfl⟩ := Int.eq_ofNat_of_zero_le (show 0 ≤ y by omega)
  have h := mul64_n (X * 4294967296) y (by omega) (by omega) w
  have e : X * 4294967296 * y / 18446744073709551616 = X * y / 4294967296 := by rw [Nat.mul_right_comm]; omega
  rw [e, show ((X * 4294967296 : Nat) : Int) = (X : Int) * 4294967296 by omega, show ((X * y / 4294967296 : Nat) : Int) = (X : Int) * y / 4294967296 by rw [← Int.natCast_mul]; omega] at h
  exact h.mono fun e w' ⟨h1, h2⟩ => ⟨⟨_, h1⟩, h2⟩
set_option maxRecDepth 100000 in
set_option maxHeartbeats 1000000 in
theorem share_c (x n : Int) (w : World) (h0 : 0 ≤ x) (h1 : x < 18446744073709551616) (hn0 : 1 ≤ n) (hn1 : n ≤ 1048576) :
    Calls Try.prog 65 #[.int .u64 x, .int .i64 n] w fun e w' => e = .returned (.tuple #[.int .i64 (shr x n), .int .i64 0]) ∧ w' = w := by
  have hr := shr_in h0 h1 hn0
  have hd1 : decide (n < 1) = false := by simp; omega
  have hd2 : decide (1048576 < n) = false := by simp; omega
  have hw : IntKind.u64.wrap (x / 4294967296 * 4294967296) = x / 4294967296 * 4294967296 := by rw [IntKind.wrap_u64]; omega
  have hw2 : IntKind.u64.wrap n = n := by rw [IntKind.wrap_u64]; omega
  have hM : Calls Try.prog 72 #[.int .u64 (x / 4294967296 * 4294967296), .int .u64 n] w fun e w' => (∃ lo, e = .returned (.tuple #[.int .u64 (shr x n), .int .u64 lo])) ∧ w' = w := mul64_c (x / 4294967296) n w (by omega) (by omega) hn0 hn1
  generalize shr x n = r at hM hr ⊢
  have GM := K.H.mk hM
  clear hM
  go_enter Try.func65, Try.ntmps65
  go_wp2_with (go_at_call 72; (with_reducible refine (GM.out).mono ?_); rintro e w' ⟨⟨lo, rfl⟩, hw'⟩; have hw'2 := Eq.symm hw'; clear hw'; subst hw'2)
  have hw3 : IntKind.i64.wrap r = r := K.i64_in (by omega) (by omega)
  go_ret2
  exact ⟨rfl, rfl⟩
set_option maxRecDepth 100000 in
set_option maxHeartbeats 1000000 in
theorem rshare_c (x n : Int) (w : World) (h0 : 0 ≤ x) (h1 : x < 18446744073709551616) (hn0 : 1 ≤ n) (hn1 : n ≤ 1048576) :
    Calls Try.prog 45 #[.int .u64 x, .int .i64 n] w fun e w' => e = .returned (.tuple #[.int .i64 (shr x n), .int .i64 0]) ∧ w' = w := by
  have hr := shr_in h0 h1 hn0
  have hd1 : decide (n < 1) = false := by simp; omega
  have hd2 : decide (1048576 < n) = false := by simp; omega
  have hw2 : IntKind.u64.wrap n = n := by rw [IntKind.wrap_u64]; omega
  have a0 : 0 ≤ x / 4294967296 := by omega
  have a1 : x / 4294967296 ≤ 4294967295 := by omega
  have b0 : 0 ≤ x / 4294967296 * n := Int.mul_nonneg a0 (by omega)
  have b1 : x / 4294967296 * n ≤ 4294967295 * n := Int.mul_le_mul_of_nonneg_right a1 (by omega)
  have hw4 : IntKind.u64.wrap (x / 4294967296 * n) = x / 4294967296 * n := by rw [IntKind.wrap_u64]; omega
  have hw3 : IntKind.i64.wrap (x / 4294967296 * n / 4294967296) = x / 4294967296 * n / 4294967296 := K.i64_in (by omega) (by omega)
  unfold shr
  go_enter Try.func45, Try.ntmps45
  go_wp2
  go_ret2
  exact ⟨rfl, rfl⟩
end Go.Proofs.Ytpafbjffecpdmaa.Bof
