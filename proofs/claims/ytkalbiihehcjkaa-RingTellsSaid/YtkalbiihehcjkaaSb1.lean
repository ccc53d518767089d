/- Subset: hash and draw. -/
import Derived.Test.YtkalbiihehcjkaaBofS
import Derived.Laws.Bits64
set_option linter.unusedVariables false
namespace Go.Proofs.Ytkalbiihehcjkaa.Sb
open Go.RowKit Go.Proofs.Ytkalbiihehcjkaa
attribute [local go_sem] K.max2_int K.min2_int K.max_two K.min_two K.max_three K.min_three
set_option linter.unusedSimpArgs false
def foldN (x : Nat) : Nat := x ^^^ x / 8589934592
theorem foldN_lt {x : Nat} (h : x < 18446744073709551616) : foldN x < 18446744073709551616 := by
  unfold foldN
  have := Nat.xor_lt_two_pow (x := x) (y := x / 8589934592) (n := 64) (by omega) (by omega)
  omega
def mix1 (x : Nat) : Nat := foldN x * 18397679294719823053 % 18446744073709551616
def mix2 (x : Nat) : Nat := foldN (mix1 x) * 14181476777654086739 % 18446744073709551616
def mixN (x : Nat) : Nat := foldN (mix2 x)
theorem mix1_lt (x : Nat) : mix1 x < 18446744073709551616 := Nat.mod_lt _ (by omega)
theorem mix2_lt (x : Nat) : mix2 x < 18446744073709551616 := Nat.mod_lt _ (by omega)
theorem mixN_lt (x : Nat) : mixN x < 18446744073709551616 := foldN_lt (mix2_lt x)
theorem fold_c (x : Nat) (w : World) (h : x < 18446744073709551616) : Calls Try.prog 58 #[.int .u64 x] w fun e w' => e = .returned (.int .u64 (foldN x : Nat)) ∧ w' = w := by
  have hx : bits .xor .u64 (x : Int) ((x : Int) / 8589934592) = ((x ^^^ x / 8589934592 : Nat) : Int) := xorShift_u64 x 8589934592 h
  have E : ((x ^^^ x / 8589934592 : Nat) : Int) = ((foldN x : Nat) : Int) := rfl
  rw [E] at hx
  generalize foldN x = y at *
  clear E
  go_enter Try.func58, Try.ntmps58
  go_wp2
  go_ret
  exact ⟨rfl, rfl⟩
theorem mul_wrap (x c y : Nat) (C : Int) (hC : C = (c : Int)) (hy : y = x * c % 18446744073709551616) : IntKind.u64.wrap ((x : Int) * C) = (y : Int) := by
  rw [hC, hy, IntKind.wrap_u64, Int.natCast_emod, Int.natCast_mul]; rfl
theorem mix1_def (x : Nat) : mix1 x = foldN x * 18397679294719823053 % 18446744073709551616 := by unfold mix1; rfl
theorem mix2_def (x : Nat) : mix2 x = foldN (mix1 x) * 14181476777654086739 % 18446744073709551616 := by unfold mix2; rfl
theorem mixN_def (x : Nat) : foldN (mix2 x) = mixN x := by unfold mixN; rfl
theorem m1_c (x : Nat) : IntKind.u64.wrap ((foldN x : Int) * 18397679294719823053) = ((mix1 x : Nat) : Int) := mul_wrap _ 18397679294719823053 _ _ (by rfl) (mix1_def x)
theorem m2_c (x : Nat) : IntKind.u64.wrap ((foldN (mix1 x) : Int) * 14181476777654086739) = ((mix2 x : Nat) : Int) := mul_wrap _ 14181476777654086739 _ _ (by rfl) (mix2_def x)
theorem fold3_c (x : Nat) (W : World) : Calls Try.prog 58 #[.int .u64 (mix2 x : Nat)] W fun e w' => e = .returned (.int .u64 (mixN x : Nat)) ∧ w' = W := by
  rw [← mixN_def]; exact fold_c _ W (mix2_lt x)
theorem MixW (f1 f2 f3 y1 y2 x : Nat) (w : World) (m1 : IntKind.u64.wrap ((f1 : Int) * 18397679294719823053) = (y1 : Int)) (m2 : IntKind.u64.wrap ((f2 : Int) * 14181476777654086739) = (y2 : Int))
    (G1 : K.H (∀ W, Calls Try.prog 58 #[.int .u64 x] W fun e w' => e = .returned (.int .u64 (f1 : Nat)) ∧ w' = W))
    (G2 : K.H (∀ W, Calls Try.prog 58 #[.int .u64 y1] W fun e w' => e = .returned (.int .u64 (f2 : Nat)) ∧ w' = W))
    (G3 : K.H (∀ W, Calls Try.prog 58 #[.int .u64 y2] W fun e w' => e = .returned (.int .u64 (f3 : Nat)) ∧ w' = W)) : Calls Try.prog 43 #[.int .u64 x] w fun e w' => e = .returned (.int .u64 (f3 : Nat)) ∧ w' = w := by
  go_enter Try.func43, Try.ntmps43
  go_wp2_with (first | (go_at_call 58; first | (go_at_call 58; (with_reducible refine (G1.out _).mono ?_); rintro e w' ⟨rfl, hw'⟩; have hw'2 := Eq.symm hw'; clear hw'; subst hw'2) | (go_at_call 58; (with_reducible refine (G2.out _).mono ?_); rintro e w' ⟨rfl, hw'⟩; have hw'2 := Eq.symm hw'; clear hw'; subst hw'2) | (go_at_call 58; (with_reducible refine (G3.out _).mono ?_); rintro e w' ⟨rfl, hw'⟩; have hw'2 := Eq.symm hw'; clear hw'; subst hw'2)))
  go_ret
  exact ⟨rfl, rfl⟩
theorem Mix_c (x : Nat) (w : World) (h : x < 18446744073709551616) : Calls Try.prog 43 #[.int .u64 x] w fun e w' => e = .returned (.int .u64 (mixN x : Nat)) ∧ w' = w :=
  MixW (foldN x) (foldN (mix1 x)) (mixN x) (mix1 x) (mix2 x) x w (m1_c x) (m2_c x) ⟨fun W => fold_c x W h⟩ ⟨fun W => fold_c (mix1 x) W (mix1_lt x)⟩ ⟨fun W => fold3_c x W⟩
/-- Numbers as a number. -/
def stepN (s : Nat) (n : Int) : Nat := mixN (((s : Int) + n % 18446744073709551616) % 18446744073709551616).toNat
theorem stepN_lt (s : Nat) (n : Int) : stepN s n < 18446744073709551616 := mixN_lt _
def intsN (s : Nat) (l : List Int) : Nat := l.foldl stepN s
theorem intsN_take {s : Nat} {l : List Int} {k : Nat} {x : Int} (h : l[k]? = some x) : intsN s (l.take (k + 1)) = stepN (intsN s (l.take k)) x := by
  unfold intsN
  rw [List.take_add_one, h, Option.toList_some, List.foldl_append, List.foldl_cons, List.foldl_nil]
theorem intsN_lt {s : Nat} (hs : s < 18446744073709551616) : ∀ (l : List Int), intsN s l < 18446744073709551616
  | [] => hs
  | x :: r => by unfold intsN; rw [List.foldl_cons]; exact intsN_lt (stepN_lt s x) r
set_option maxRecDepth 100000 in
set_option maxHeartbeats 2000000 in
theorem Ints_c (s : Nat) (xs : List Int) (A : Option Addr) (n c : Nat) (w : World) (hr : Sl.Rds w 1 A n (xs.flatMap fun n => [.int .i64 n])) (hs : s < 18446744073709551616) :
    Calls Try.prog 27 #[.int .u64 s, .slice A n c] w fun e w' => e = .returned (.int .u64 (intsN s xs : Nat)) ∧ w' = w := by
  obtain rfl := hr.length (fun _ => rfl) (by omega)
  have hle := hr.le
  have Hr := K.H.mk hr
  clear hr
  go_enter Try.func27, Try.ntmps27
  go_wp2
  go_loop [0, 9] (fun s2 i => ∃ k : Nat, k ≤ xs.length ∧ i = .int .i64 k ∧ s2 = .int .u64 (intsN s (xs.take k) : Nat)) (fun _ i => xs.length - (intOf i).toNat)
  case atStart => exact ⟨0, by omega, rfl, rfl⟩
  case round =>
    obtain ⟨k, hk, rfl, rfl⟩ := hrel
    have hlt0 := intsN_lt hs (xs.take k)
    by_cases hlt : k < xs.length
    · obtain ⟨x, hx⟩ : ∃ x, xs[k]? = some x := ⟨_, List.getElem?_eq_getElem hlt⟩
      have ht := intsN_take (s := s) hx
      obtain ⟨b, off, rfl, hbl, hbc⟩ := Sl.Rds.elem Hr.out (enc := fun n => [.int .i64 n]) (fun _ => rfl) (by omega) hx
      have q_0 : w.cell? ⟨b, off + k, none⟩ = some (.int .i64 x) := by
        have := ((Below.refl _ _ : Below w.heap.size w w).cell (p := ⟨b, off + k * 1 + 0, none⟩) hbl).trans (hbc 0 (by omega))
        simpa using this
      clear hx hbc
      generalize intsN s (xs.take k) = t at *
      obtain ⟨u, hu⟩ : ∃ u : Nat, (((t : Int) + x % 18446744073709551616) % 18446744073709551616) = (u : Int) := ⟨(((t : Int) + x % 18446744073709551616) % 18446744073709551616).toNat, by omega⟩
      have hu2 : (((t : Int) + x % 18446744073709551616) % 18446744073709551616).toNat = u := by omega
      unfold stepN at ht
      rw [hu2] at ht
      have hw : IntKind.u64.wrap ((t : Int) + IntKind.u64.wrap x) = (u : Int) := by rw [IntKind.wrap_u64, IntKind.wrap_u64]; exact hu
      have hul : u < 18446744073709551616 := by omega
      have GM := K.H.mk (fun W => Mix_c u W hul)
      have Ht := K.H.mk ht
      clear ht hu hu2
      go_wp2_with (first | (go_at_call 43; (with_reducible refine (GM.out _).mono ?_); rintro e w' ⟨rfl, hw'⟩; have hw'2 := Eq.symm hw'; clear hw'; subst hw'2))
      go_round
      case rel => exact ⟨k + 1, by omega, by go_num, by rw [Ht.out]⟩
      case measure => simp [intOf]; omega
    · obtain rfl : k = xs.length := by omega
      rw [List.take_length]
      go_wp2
      go_ret
      exact ⟨rfl, rfl⟩
/-! ### Draws -/
def nextS (s : Nat) : Nat := (s + 11400714819323198485) % 18446744073709551616
theorem nextS_lt (s : Nat) : nextS s < 18446744073709551616 := Nat.mod_lt _ (by omega)
theorem next_wrap (s : Nat) : IntKind.u64.wrap ((s : Int) + 11400714819323198485) = ((nextS s : Nat) : Int) := by
  rw [IntKind.wrap_u64]; unfold nextS; omega
/-- A draw below n. -/
def belN (s n : Nat) : Nat := (Bof.shr (mixN (nextS s)) n).toNat
theorem belN_lt (s n : Nat) (hn : 1 ≤ n) : belN s n < n := by
  have := Bof.shr_in (x := (mixN (nextS s) : Int)) (n := n) (by omega) (by have := mixN_lt (nextS s); omega) (by omega)
  unfold belN; omega
end Go.Proofs.Ytkalbiihehcjkaa.Sb
