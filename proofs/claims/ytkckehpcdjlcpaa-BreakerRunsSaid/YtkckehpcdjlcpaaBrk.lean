/- The breaker as plain numbers: what each step makes of it. -/
import Derived.Test.YtkckehpcdjlcpaaK
set_option linter.unusedVariables false
namespace Go.Proofs.Ytkckehpcdjlcpaa.Brk
open Go.Proofs.Ytkckehpcdjlcpaa.K (mx mn)
structure S where
  fails : Int
  opn : Int
  probes : Int
structure B where
  mode : Int
  fails : Int
  til : Int
  probes : Int
  wins : Int
def zero : B := ⟨0, 0, 0, 0, 0⟩
def inB (n a b : Int) : Bool := decide (a ≤ n) && decide (n ≤ b)
def sets (s : S) : Bool := inB s.fails 1 1000 && inB s.opn 1 1048576 && inB s.probes 1 64
def state (b : B) : Bool := inB b.mode 0 2 && (inB b.til 0 1073741824 && (inB (mn (mn b.fails b.probes) b.wins) 0 1000 && !decide (1000 < mx (mx b.fails b.probes) b.wins)))
theorem inB_iff {n a b : Int} : inB n a b = true ↔ a ≤ n ∧ n ≤ b := by simp [inB]
theorem state_iff (b : B) : state b = true ↔ (0 ≤ b.mode ∧ b.mode ≤ 2) ∧ (0 ≤ b.til ∧ b.til ≤ 1073741824) ∧ (0 ≤ b.fails ∧ b.fails ≤ 1000) ∧ (0 ≤ b.probes ∧ b.probes ≤ 1000) ∧ (0 ≤ b.wins ∧ b.wins ≤ 1000) := by
  simp only [state, Bool.and_eq_true, inB_iff, Bool.not_eq_true', decide_eq_false_iff_not]
  constructor
  · rintro ⟨h1, h2, h3, h4⟩
    refine ⟨h1, h2, ?_⟩
    unfold mn at h3; unfold mx at h4
    repeat' split at h3
    all_goals (repeat' split at h4)
    all_goals omega
  · rintro ⟨h1, h2, h3⟩
    refine ⟨h1, h2, ?_, ?_⟩
    · unfold mn; repeat' split
      all_goals omega
    · unfold mx; repeat' split
      all_goals omega
theorem sets_iff (s : S) : sets s = true ↔ (1 ≤ s.fails ∧ s.fails ≤ 1000) ∧ (1 ≤ s.opn ∧ s.opn ≤ 1048576) ∧ (1 ≤ s.probes ∧ s.probes ≤ 64) := by
  simp only [sets, Bool.and_eq_true, inB_iff, and_assoc]
def chk (b : B) (s : S) (t : Int) : Int := if sets s && inB t 0 536870912 then (if state b then 0 else 9) else 4
def on (b : B) (t : Int) : B := if b.mode = 1 ∧ b.til ≤ t then { b with mode := 2, wins := 0 } else b
def allows (b : B) (s : S) : Bool := decide (b.mode = 0) || (decide (b.mode = 2) && decide (b.probes < s.probes))
def trip (b : B) (s : S) (t : Int) : B := { b with mode := 1, til := t + s.opn, fails := 0, wins := 0 }
def fails (b : B) (s : S) (t : Int) : B := if b.fails + 1 ≥ s.fails then { b with mode := 1, til := t + s.opn, fails := 0 } else { b with fails := b.fails + 1 }
def wins (b : B) (s : S) : B := if b.wins + 1 ≥ s.probes then { b with mode := 0, fails := 0, wins := 0 } else { b with wins := b.wins + 1 }
def ends (b : B) (s : S) (t : Int) (probe good : Bool) : B :=
  let b := if probe then { b with probes := mx (b.probes - 1) 0 } else b
  if b.mode = 0 then (if good then { b with fails := 0 } else fails b s t)
  else if b.mode = 2 then (if probe then (if good then wins b s else { trip b s t with fails := b.fails }) else b)
  else b
theorem zero_state : state zero = true := by decide
end Go.Proofs.Ytkckehpcdjlcpaa.Brk
