/- BackoffGrows, BackoffRow: the walks. -/
import Derived.Test.YtfepjpjkamlneaaBofR
import Derived.Test.YtfepjpjkamlneaaSame
set_option linter.unusedVariables false
namespace Go.Proofs.Ytfepjpjkamlneaa.Bof
open Go.RowKit Go.Proofs.Ytfepjpjkamlneaa
attribute [local go_sem] K.max2_int K.min2_int K.max_two K.min_two K.max_three K.min_three
set_option linter.unusedSimpArgs false
theorem same_t (xs : List Int) (A B : Option Addr) (n m c d : Nat) (w : World) (hx : Sl.Rds w 1 A n (xs.flatMap fun n => [.int .i64 n])) (hy : Sl.Rds w 1 B m (xs.flatMap fun n => [.int .i64 n])) :
    Calls Try.prog 30 #[.slice A n c, .slice B m d] w fun e w' => e = .returned (.bool true) ∧ Below w.heap.size w w' := by
  have := Sl.same_c xs xs A B n m c d w hx hy
  rwa [show decide (xs = xs) = true by simp] at this
theorem four_rds (w : World) (g : Nat) (hg : g < w.heap.size) (a b c d : Int) (h : K.At w g 3 #[.int .i64 a, .int .i64 b, .int .i64 c, .int .i64 d]) : Sl.Rds w 1 (some ⟨g, 0, none⟩) 4 ([a, b, c, d].flatMap fun n => [.int .i64 n]) := by
  refine ⟨rfl, by simp [maxLen], fun _ => ⟨g, 0, rfl, hg, fun j hj => ?_⟩⟩
  rw [Nat.zero_add, h.cell]
  simp
theorem tmod_in (n k : Int) (hk : 1 ≤ k) : (-k < n.tmod k ∧ n.tmod k < k) ∧ (0 ≤ (n.tmod k + k).tmod k ∧ (n.tmod k + k).tmod k < k) := by
  have h1 : -k < n.tmod k := by have := Int.lt_tmod_of_pos n (show (0 : Int) < k by omega); omega
  have h2 := Int.tmod_lt_of_pos n (show (0 : Int) < k by omega)
  exact ⟨⟨h1, h2⟩, Int.tmod_nonneg _ (by omega), Int.tmod_lt_of_pos _ (by omega)⟩
theorem mstI_grows {s : S} (h : Ok s) {n : Int} (hn : 1 ≤ n) : (1 ≤ mstI s n ∧ mstI s n ≤ 1048576) ∧ mstI s n ≤ mstI s (n + 1) ∧ (mstI s (n + 1) = 2 * mstI s n ∨ mstI s (n + 1) = s.cap) := by
  have h1 := mst_grows h (n - 1).toNat
  unfold mstI
  rw [show (n + 1 - 1).toNat = (n - 1).toNat + 1 by omega]
  exact ⟨mst_in h _, h1⟩
theorem Most_ok (s : S) (n : Int) (w : World) (h : Ok s) (hn : 1 ≤ n ∧ n ≤ 64) : Calls Try.prog 60 #[s.a, .int .i64 n] w fun e w' => e = .returned (.tuple #[.int .i64 (mstI s n), .int .i64 0]) ∧ Below w.heap.size w w' := by
  have := Most_c s n w
  rwa [(most_0 h hn).1, (most_0 h hn).2] at this
theorem Most_bad (s : S) (n : Int) (w : World) (h : ¬ Ok s) : Calls Try.prog 60 #[s.a, .int .i64 n] w fun e w' => e = .returned (.tuple #[.int .i64 0, .int .i64 4]) ∧ Below w.heap.size w w' := by
  have := Most_c s n w
  rwa [(most_4 h).1, (most_4 h).2] at this
def rl (s : S) (k : Nat) : List Int := (List.range k).map (mst s)
theorem rl_get (s : S) {j N : Nat} (h : j < N) : (rl s N)[j]? = some (mst s j) := by simp [rl, h]
theorem rl_take (s : S) {j N : Nat} (h : j ≤ N) : (rl s N).take j = rl s j := by
  unfold rl
  rw [← List.map_take, List.take_range, Nat.min_eq_left h]
theorem rowl_len (s : S) (k : Nat) : ((List.range k).map (mst s)).length = k := by simp
end Go.Proofs.Ytfepjpjkamlneaa.Bof
