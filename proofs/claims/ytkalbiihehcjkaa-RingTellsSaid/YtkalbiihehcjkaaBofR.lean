/- Backoff: Most, and Row. -/
import Derived.Test.YtkalbiihehcjkaaBofA
import Derived.Test.YtkalbiihehcjkaaSl
set_option linter.unusedVariables false
namespace Go.Proofs.Ytkalbiihehcjkaa.Bof
open Go.RowKit Go.Shelf Go.Proofs.Ytkalbiihehcjkaa
attribute [local go_sem] Oper.semAt_some
attribute [local go_sem] K.max2_int K.min2_int K.max_two K.min_two K.max_three K.min_three
set_option linter.unusedSimpArgs false
/-- Most: the code, the number. -/
def eMost (s : S) (n : Int) : Int := if Ok s then (if 1 ≤ n ∧ n ≤ 64 then 0 else 3) else 4
def oMost (s : S) (n : Int) : Int := if eMost s n = 0 then mstI s n else 0
theorem most_4 {s : S} {n : Int} (h : ¬ Ok s) : eMost s n = 4 ∧ oMost s n = 0 := by simp [eMost, oMost, h]
theorem most_3 {s : S} {n : Int} (h : Ok s) (h2 : n < 1 ∨ 64 < n) : eMost s n = 3 ∧ oMost s n = 0 := by
  have : ¬ (1 ≤ n ∧ n ≤ 64) := by omega
  simp [eMost, oMost, h, this]
theorem most_0 {s : S} {n : Int} (h : Ok s) (h2 : 1 ≤ n ∧ n ≤ 64) : eMost s n = 0 ∧ oMost s n = mstI s n := by simp [eMost, oMost, h, h2]
/-- What Row tells: a row of its own, an error. -/
def RowPost (w : World) (told : List Int) (er : Int) (e : Ending) (w' : World) : Prop :=
  ∃ v, e = .returned (.tuple #[v, .int .i64 er]) ∧ w'.ownsRow w.heap.size 3 1 v told.length (told.map (Value.int .i64)) ∧ Below w.heap.size w w'
def eRow (s : S) (n : Int) : Int := if Ok s then (if 0 ≤ n ∧ n ≤ 64 then 0 else 3) else 4
def oRow (s : S) (n : Int) : List Int := if eRow s n = 0 then (List.range n.toNat).map (mst s) else []
theorem row_4 {s : S} {n : Int} (h : ¬ Ok s) : eRow s n = 4 ∧ oRow s n = [] := by simp [eRow, oRow, h]
theorem row_3 {s : S} {n : Int} (h : Ok s) (h2 : n < 0 ∨ 64 < n) : eRow s n = 3 ∧ oRow s n = [] := by
  have : ¬ (0 ≤ n ∧ n ≤ 64) := by omega
  simp [eRow, oRow, h, this]
theorem row_0 {s : S} {n : Int} (h : Ok s) (h2 : 0 ≤ n ∧ n ≤ 64) : eRow s n = 0 ∧ oRow s n = (List.range n.toNat).map (mst s) := by simp [eRow, oRow, h, h2]
theorem ups_map (s : S) : ∀ k, k ≤ 64 → (ups k).map (fun x => mst s x.1) = (List.range k).map (mst s)
  | 0, _ => rfl
  | k + 1, h => by rw [ups_succ (by omega), List.map_append, ups_map s k (by omega), List.range_succ, List.map_append]; rfl
theorem mem_ups {k : Nat} {x : I} (h : x.1 < k) : x ∈ ups k := by
  simp only [ups, List.mem_filterMap, List.mem_range]
  exact ⟨x.1, h, by simp [x.2]⟩
theorem info_int : (Try.prog.info? 3).map (fun i => (i.zero, i.size, i.bytes)) = some (some (.int .i64 0), 1, 8) := by kernel_rfl
end Go.Proofs.Ytkalbiihehcjkaa.Bof
