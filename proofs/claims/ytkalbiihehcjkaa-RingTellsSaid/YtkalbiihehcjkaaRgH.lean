/- Ring: the reference's hash (as in Subset). -/
import Derived.Test.YtkalbiihehcjkaaSb1
import Derived.Laws.BitsAllLaws
set_option linter.unusedVariables false
namespace Go.Proofs.Ytkalbiihehcjkaa.Sb
open Go.RowKit Go.Proofs.Ytkalbiihehcjkaa
attribute [local go_sem] K.max2_int K.min2_int K.max_two K.min_two K.max_three K.min_three
set_option linter.unusedSimpArgs false
def tim (a b : Nat) : Nat := a * b % 18446744073709551616
theorem bit_and (b k : Nat) (hb : b < 18446744073709551616) : bits .and .u64 ((b : Int) / 2 ^ k) 1 = ((b / 2 ^ k % 2 : Nat) : Int) := by
  have h1 : ((b : Int) / 2 ^ k) = ((b / 2 ^ k : Nat) : Int) := by rw [Int.natCast_ediv]; push_cast; rfl
  have h2 : b / 2 ^ k < 18446744073709551616 := Nat.lt_of_le_of_lt (Nat.div_le_self _ _) hb
  rw [h1]
  have h3 := u64_and_nat (b / 2 ^ k) 1 h2 (by omega)
  rw [Nat.and_one_is_mod] at h3
  exact h3
theorem tim_step (a b k : Nat) : (a * (b % 2 ^ (k + 1))) % 18446744073709551616 = if b / 2 ^ k % 2 = 1 then ((a * (b % 2 ^ k)) % 18446744073709551616 + a * 2 ^ k % 18446744073709551616) % 18446744073709551616 else (a * (b % 2 ^ k)) % 18446744073709551616 := by
  rw [Nat.mod_pow_succ]
  split
  · rename_i h; rw [h, Nat.mul_one, Nat.mul_add, Nat.add_mod]
  · rename_i h
    have : b / 2 ^ k % 2 = 0 := by omega
    rw [this, Nat.mul_zero, Nat.add_zero]
theorem shl_wrap (n a k : Nat) : IntKind.u64.wrap ((n : Int) + IntKind.u64.wrap ((a : Int) * 2 ^ k)) = (((n + a * 2 ^ k % 18446744073709551616) % 18446744073709551616 : Nat) : Int) := by
  rw [IntKind.wrap_u64, IntKind.wrap_u64, Int.natCast_emod, Int.natCast_add, Int.natCast_emod, Int.natCast_mul, Int.natCast_pow]
  rfl
set_option maxRecDepth 100000 in
set_option maxHeartbeats 2000000 in
theorem times_c (a b : Nat) (w : World) (ha : a < 18446744073709551616) (hb : b < 18446744073709551616) :
    Calls Try.prog 57 #[.int .u64 a, .int .u64 b] w fun e w' => e = .returned (.int .u64 (tim a b : Nat)) ∧ w' = w := by
  obtain ⟨T, hT⟩ : ∃ T, T = tim a b := ⟨_, rfl⟩
  rw [← hT]
  have HT := K.H.mk hT
  have Hb := K.H.mk hb
  clear hT hb ha
  go_enter Try.func57, Try.ntmps57
  go_wp2
  go_loop [5, 6] (fun m i => ∃ (k n : Nat), k ≤ 64 ∧ i = .int .i64 k ∧ m = .int .u64 n ∧ K.H (n = a * (b % 2 ^ k) % 18446744073709551616)) (fun _ i => 64 - (intOf i).toNat)
  case atStart => exact ⟨0, 0, by omega, rfl, rfl, ⟨by rw [Nat.pow_zero, Nat.mod_one, Nat.mul_zero]⟩⟩
  case round =>
    obtain ⟨k, n, hk, rfl, rfl, Hn⟩ := hrel
    by_cases hlt : k < 64
    · have hkl : (k : Int) < 64 := by omega
      have hand := bit_and b k Hb.out
      have hsh := shl_wrap n a k
      have HN := K.H.mk (tim_step a b k)
      by_cases hbit : b / 2 ^ k % 2 = 1
      · have HM := K.H.mk (show (n + a * 2 ^ k % 18446744073709551616) % 18446744073709551616 = a * (b % 2 ^ (k + 1)) % 18446744073709551616 by rw [HN.out, if_pos hbit, Hn.out])
        rw [hbit] at hand
        have hd : (bits BinOp.and IntKind.u64 ((b : Int) / 2 ^ k) 1 == 1) = true := by rw [hand]; rfl
        clear hbit hand
        generalize (n + a * 2 ^ k % 18446744073709551616) % 18446744073709551616 = n2 at *
        go_wp2
        go_round
        case rel => exact ⟨k + 1, n2, by omega, by go_num, rfl, HM⟩
        case measure => simp [intOf]; omega
      · have HM := K.H.mk (show n = a * (b % 2 ^ (k + 1)) % 18446744073709551616 by rw [HN.out, if_neg hbit]; exact Hn.out)
        have hz : b / 2 ^ k % 2 = 0 := by omega
        rw [hz] at hand
        have hd : (bits BinOp.and IntKind.u64 ((b : Int) / 2 ^ k) 1 == 1) = false := by rw [hand]; rfl
        clear hbit hand hz
        go_wp2
        go_round
        case rel => exact ⟨k + 1, n, by omega, by go_num, rfl, HM⟩
        case measure => simp [intOf]; omega
    · obtain rfl : k = 64 := by omega
      have HE := K.H.mk (show n = T by
        have h1 := Hn.out
        rw [Nat.mod_eq_of_lt (show b < 2 ^ 64 from Hb.out)] at h1
        rw [HT.out, h1]; unfold tim; rfl)
      go_wp2
      go_ret
      exact ⟨K.ret_int (by rw [HE.out]), rfl⟩
theorem rMixW (f1 f2 f3 y1 y2 x : Nat) (w : World) (h1 : bits .xor .u64 (x : Int) ((x : Int) / 8589934592) = (f1 : Int)) (h2 : bits .xor .u64 (y1 : Int) ((y1 : Int) / 8589934592) = (f2 : Int)) (h3 : bits .xor .u64 (y2 : Int) ((y2 : Int) / 8589934592) = (f3 : Int))
    (G1 : K.H (∀ W, Calls Try.prog 57 #[.int .u64 f1, .int .u64 18397679294719823053] W fun e w' => e = .returned (.int .u64 (y1 : Nat)) ∧ w' = W))
    (G2 : K.H (∀ W, Calls Try.prog 57 #[.int .u64 f2, .int .u64 14181476777654086739] W fun e w' => e = .returned (.int .u64 (y2 : Nat)) ∧ w' = W)) :
    Calls Try.prog 42 #[.int .u64 x] w fun e w' => e = .returned (.int .u64 (f3 : Nat)) ∧ w' = w := by
  go_enter Try.func42, Try.ntmps42
  go_wp2_with (first | (go_at_call 57; first | (go_at_call 57; (with_reducible refine (G1.out _).mono ?_); rintro e w' ⟨rfl, hw'⟩; have hw'2 := Eq.symm hw'; clear hw'; subst hw'2) | (go_at_call 57; (with_reducible refine (G2.out _).mono ?_); rintro e w' ⟨rfl, hw'⟩; have hw'2 := Eq.symm hw'; clear hw'; subst hw'2)))
  go_ret
  exact ⟨rfl, rfl⟩
theorem xor_fold (x : Nat) (h : x < 18446744073709551616) : bits .xor .u64 (x : Int) ((x : Int) / 8589934592) = ((foldN x : Nat) : Int) := by
  have hx : bits .xor .u64 (x : Int) ((x : Int) / 8589934592) = ((x ^^^ x / 8589934592 : Nat) : Int) := xorShift_u64 x 8589934592 h
  rw [hx]; unfold foldN; rfl
theorem times1 (x : Nat) (hx : x < 18446744073709551616) (W : World) : Calls Try.prog 57 #[.int .u64 (foldN x : Nat), .int .u64 18397679294719823053] W fun e w' => e = .returned (.int .u64 (mix1 x : Nat)) ∧ w' = W := by
  have h := times_c (foldN x) 18397679294719823053 W (foldN_lt hx) (by omega)
  rw [show tim (foldN x) 18397679294719823053 = mix1 x by unfold tim; exact (mix1_def x).symm] at h
  exact h
theorem times2 (x : Nat) (W : World) : Calls Try.prog 57 #[.int .u64 (foldN (mix1 x) : Nat), .int .u64 14181476777654086739] W fun e w' => e = .returned (.int .u64 (mix2 x : Nat)) ∧ w' = W := by
  have h := times_c (foldN (mix1 x)) 14181476777654086739 W (foldN_lt (mix1_lt x)) (by omega)
  rw [show tim (foldN (mix1 x)) 14181476777654086739 = mix2 x by unfold tim; exact (mix2_def x).symm] at h
  exact h
theorem xor3 (x : Nat) : bits .xor .u64 (mix2 x : Int) ((mix2 x : Int) / 8589934592) = ((mixN x : Nat) : Int) := by
  rw [← mixN_def]; exact xor_fold (mix2 x) (mix2_lt x)
theorem rMix_c (x : Nat) (w : World) (h : x < 18446744073709551616) : Calls Try.prog 42 #[.int .u64 x] w fun e w' => e = .returned (.int .u64 (mixN x : Nat)) ∧ w' = w :=
  rMixW (foldN x) (foldN (mix1 x)) (mixN x) (mix1 x) (mix2 x) x w (xor_fold x h) (xor_fold (mix1 x) (mix1_lt x)) (xor3 x) ⟨fun W => times1 x h W⟩ ⟨fun W => times2 x W⟩
set_option maxRecDepth 100000 in
set_option maxHeartbeats 2000000 in
theorem rInts_c (s : Nat) (xs : List Int) (A : Option Addr) (n c : Nat) (w : World) (hr : Sl.Rds w 1 A n (xs.flatMap fun n => [.int .i64 n])) (hs : s < 18446744073709551616) :
    Calls Try.prog 26 #[.int .u64 s, .slice A n c] w fun e w' => e = .returned (.int .u64 (intsN s xs : Nat)) ∧ w' = w := by
  obtain rfl := hr.length (fun _ => rfl) (by omega)
  have hle := hr.le
  have Hr := K.H.mk hr
  clear hr
  go_enter Try.func26, Try.ntmps26
  go_wp2
  go_loop [0, 5] (fun s2 i => ∃ k : Nat, k ≤ xs.length ∧ i = .int .i64 k ∧ s2 = .int .u64 (intsN s (xs.take k) : Nat)) (fun _ i => xs.length - (intOf i).toNat)
  case atStart => exact ⟨0, by omega, rfl, rfl⟩
  case round =>
    obtain ⟨k, hk, rfl, rfl⟩ := hrel
    have hlt0 := intsN_lt hs (xs.take k)
    by_cases hlt : k < xs.length
    · obtain ⟨x, hx⟩ : ∃ x, xs[k]? = some x := ⟨_, List.getElem?_eq_getElem hlt⟩
      have ht := intsN_take (s := s) hx
      obtain ⟨b, off, rfl, hbl, hbc⟩ := Sl.Rds.elem Hr.out (enc := fun n => [.int .i64 n]) (fun _ => rfl) (by omega) hx
      have q_0 : w.cell? ⟨b, off + k, none⟩ = some (.int .i64 x) := by
        have := ((Below.refl _ _ : Below w.heap.size w w).cell (p := ⟨b, off + k * 1 + 0, none⟩) hbl).trans (hbc 0 (by omega))
        simpa using this
      clear hx hbc
      generalize intsN s (xs.take k) = t at *
      obtain ⟨u, hu⟩ : ∃ u : Nat, (((t : Int) + x % 18446744073709551616) % 18446744073709551616) = (u : Int) := ⟨(((t : Int) + x % 18446744073709551616) % 18446744073709551616).toNat, by omega⟩
      have hu2 : (((t : Int) + x % 18446744073709551616) % 18446744073709551616).toNat = u := by omega
      unfold stepN at ht
      rw [hu2] at ht
      have hw : IntKind.u64.wrap ((t : Int) + IntKind.u64.wrap x) = (u : Int) := by rw [IntKind.wrap_u64, IntKind.wrap_u64]; exact hu
      have hul : u < 18446744073709551616 := by omega
      have GM := K.H.mk (fun W => rMix_c u W hul)
      have Ht := K.H.mk ht
      clear ht hu hu2
      go_wp2_with (first | (go_at_call 42; (with_reducible refine (GM.out _).mono ?_); rintro e w' ⟨rfl, hw'⟩; have hw'2 := Eq.symm hw'; clear hw'; subst hw'2))
      go_round
      case rel => exact ⟨k + 1, by omega, by go_num, by rw [Ht.out]⟩
      case measure => simp [intOf]; omega
    · obtain rfl : k = xs.length := by omega
      rw [List.take_length]
      go_wp2
      go_ret
      exact ⟨rfl, rfl⟩
end Go.Proofs.Ytkalbiihehcjkaa.Sb
