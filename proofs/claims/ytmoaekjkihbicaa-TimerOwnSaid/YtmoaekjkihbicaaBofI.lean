/- Backoff's iterator: the retries one by one, and how long each waits at most. -/
import Derived.RangeFuncNested
import Derived.RangeFuncBound
import Derived.RangeFuncCalls
import Derived.RangeFuncLeaves
import Derived.RangeFuncBox
import Derived.Shelf.Abstract
import Derived.Shelf.RegionOpen
import Derived.WalkKit
import Derived.OwnWalkIn
import Derived.TacticsInMore
import Derived.LoopNIn
import Derived.LoopIn
import Derived.Maps.AppendAt
import Derived.Test.YtmoaekjkihbicaaBof
set_option linter.unusedVariables false
namespace Go.Proofs.Ytmoaekjkihbicaa.Bof
open Go.RowKit Go.Shelf Go.Proofs.Ytmoaekjkihbicaa
attribute [local go_sem] Oper.semAt_some
attribute [local go_sem] K.max2_int K.min2_int K.max_two K.min_two K.max_three K.min_three
set_option linter.unusedSimpArgs false
/-- The number of a retry, from 0. -/
abbrev I := { i : Nat // i < 64 }
abbrev encs (s : S) (x : I) : Array Value := #[.int .i64 (x.1 + 1), .int .i64 (mst s x.1)]
/-- The first of them. -/
def ups (k : Nat) : List I := (List.range k).filterMap fun i => if h : i < 64 then some ⟨i, h⟩ else none
theorem ups_succ {k : Nat} (h : k < 64) : ups (k + 1) = ups k ++ [⟨k, h⟩] := by
  simp [ups, List.range_succ, List.filterMap_append, h]
theorem ups_len : ∀ k, k ≤ 64 → (ups k).length = k
  | 0, _ => rfl
  | k + 1, h => by rw [ups_succ (by omega)]; simp [ups_len k (by omega)]
theorem ups_last {k : Nat} {pre : List I} {x : I} (hk : k ≤ 64) (h : pre ++ [x] = ups k) : pre = ups x.1 ∧ x.1 + 1 = k := by
  cases k with
  | zero => exact absurd (congrArg List.length h) (by simp [ups])
  | succ k =>
    rw [ups_succ (Nat.lt_of_succ_le hk)] at h
    obtain ⟨h1, h2⟩ := List.append_inj' h rfl
    simp only [List.cons.injEq, and_true] at h2
    subst h2
    exact ⟨h1, rfl⟩
/-- The block B lies as it lay. -/
def Kps (B : Nat) (W W' : World) : Prop := W'.heap[B]? = W.heap[B]?
theorem kps_t {B : Nat} {a b c : World} (h : Kps B a b) (k : Kps B b c) : Kps B a c := Eq.trans k h
theorem kps_b {B : Nat} {w : World} (hB : B < w.heap.size) : ∀ (W : World) (l : Nat) (o o' : Obj), w.heap.size ≤ l → W.heap[l]? = some o → o.isCells = false → o.isWalk = false → Kps B W (W.putObj l o') := fun W l o o' hl _ _ _ => World.putObj_heap_other (by omega)
theorem kps_at {B : Nat} {W W' : World} {T : TypeId} {cs : Array Value} (h : K.At W B T cs) (k : K.At W' B T cs) : Kps B W W' := k.out.trans h.out.symm
theorem at_kept {W W' : World} {row : Option Nat} {g : Nat} {T : TypeId} {cs : Array Value} (h : K.At W g T cs) (hg : W.grownBy W' row) (hr : ∀ r, row = some r → ∃ o : Obj, W.heap[r]? = some o ∧ o.isCells = false) : K.At W' g T cs := by
  refine ⟨(hg.block g h.lt ?_).trans h.out⟩
  rintro e
  obtain ⟨o, ho, hc⟩ := hr g e.symm
  rw [h.out] at ho
  cases ho
  cases hc
end Go.Proofs.Ytmoaekjkihbicaa.Bof
