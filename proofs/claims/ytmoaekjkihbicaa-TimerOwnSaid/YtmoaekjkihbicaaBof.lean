/- Backoff: settings, and what a retry waits at most. -/
import Derived.Test.YtmoaekjkihbicaaK
set_option linter.unusedVariables false
namespace Go.Proofs.Ytmoaekjkihbicaa.Bof
open Go.RowKit Go.Proofs.Ytmoaekjkihbicaa
attribute [local go_sem] K.max2_int K.min2_int K.max_two K.min_two K.max_three K.min_three
set_option linter.unusedSimpArgs false
structure S where
  base : Int
  cap : Int
  jit : Int
abbrev S.a (s : S) : Value := .agg #[.int .i64 s.base, .int .i64 s.cap, .int .i64 s.jit]
abbrev S.c (s : S) : Array Value := #[.int .i64 s.base, .int .i64 s.cap, .int .i64 s.jit]
def Ok (s : S) : Prop := (1 ≤ s.base ∧ s.base ≤ 65536) ∧ (s.base ≤ s.cap ∧ s.cap ≤ 1048576) ∧ (0 ≤ s.jit ∧ s.jit ≤ 1000)
instance (s : S) : Decidable (Ok s) := by unfold Ok; infer_instance
def chk (s : S) : Int := if Ok s then 0 else 4
theorem chk_0 {s : S} (h : Ok s) : chk s = 0 := by simp [chk, h]
theorem chk_4 {s : S} (h : ¬ Ok s) : chk s = 4 := by simp [chk, h]
/-- What the retry k + 1 waits at most. -/
def mst (s : S) : Nat → Int
  | 0 => s.base
  | k + 1 => K.mn (2 * mst s k) s.cap
theorem mst_le {s : S} (h : Ok s) : ∀ k, s.base ≤ mst s k ∧ mst s k ≤ s.cap
  | 0 => by unfold Ok at h; simp only [mst]; omega
  | k + 1 => by
    have := mst_le h k
    unfold Ok at h
    simp only [mst, K.mn]
    split <;> omega
theorem mst_in {s : S} (h : Ok s) (k : Nat) : 1 ≤ mst s k ∧ mst s k ≤ 1048576 := by
  have := mst_le h k
  unfold Ok at h
  omega
theorem mst_grows {s : S} (h : Ok s) (k : Nat) : mst s k ≤ mst s (k + 1) ∧ (mst s (k + 1) = 2 * mst s k ∨ mst s (k + 1) = s.cap) := by
  have := mst_le h k
  unfold Ok at h
  simp only [mst, K.mn]
  split <;> omega
theorem mn_sym (a b : Int) : K.mn a b = K.mn b a := by unfold K.mn; split <;> split <;> omega
end Go.Proofs.Ytmoaekjkihbicaa.Bof
