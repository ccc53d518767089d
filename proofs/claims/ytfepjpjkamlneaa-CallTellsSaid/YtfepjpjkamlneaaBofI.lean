/- Backoff's iterator: the retries one by one, and how long each waits at most. -/
import Derived.RangeFuncNested
import Derived.RangeFuncBound
import Derived.RangeFuncCalls
import Derived.RangeFuncLeaves
import Derived.RangeFuncBox
import Derived.Shelf.Abstract
import Derived.Shelf.RegionOpen
import Derived.WalkKit
import Derived.OwnWalkIn
import Derived.TacticsInMore
import Derived.LoopNIn
import Derived.LoopIn
import Derived.Maps.AppendAt
import Derived.Test.YtfepjpjkamlneaaBof
set_option linter.unusedVariables false
namespace Go.Proofs.Ytfepjpjkamlneaa.Bof
open Go.RowKit Go.Shelf Go.Proofs.Ytfepjpjkamlneaa
attribute [local go_sem] Oper.semAt_some
attribute [local go_sem] K.max2_int K.min2_int K.max_two K.min_two K.max_three K.min_three
set_option linter.unusedSimpArgs false
/-- The number of a retry, from 0. -/
abbrev I := { i : Nat // i < 64 }
abbrev encs (s : S) (x : I) : Array Value := #[.int .i64 (x.1 + 1), .int .i64 (mst s x.1)]
/-- The first of them. -/
def ups (k : Nat) : List I := (List.range k).filterMap fun i => if h : i < 64 then some ⟨i, h⟩ else none
theorem ups_succ {k : Nat} (h : k < 64) : ups (k + 1) = ups k ++ [⟨k, h⟩] := by
  simp [ups, List.range_succ, List.filterMap_append, h]
theorem ups_len : ∀ k, k ≤ 64 → (ups k).length = k
  | 0, _ => rfl
  | k + 1, h => by rw [ups_succ (by omega)]; simp [ups_len k (by omega)]
theorem ups_last {k : Nat} {pre : List I} {x : I} (hk : k ≤ 64) (h : pre ++ [x] = ups k) : pre = ups x.1 ∧ x.1 + 1 = k := by
  cases k with
  | zero => exact absurd (congrArg List.length h) (by simp [ups])
  | succ k =>
    rw [ups_succ (Nat.lt_of_succ_le hk)] at h
    obtain ⟨h1, h2⟩ := List.append_inj' h rfl
    simp only [List.cons.injEq, and_true] at h2
    subst h2
    exact ⟨h1, rfl⟩
/-- The block B lies as it lay. -/
def Kps (B : Nat) (W W' : World) : Prop := W'.heap[B]? = W.heap[B]?
theorem kps_t {B : Nat} {a b c : World} (h : Kps B a b) (k : Kps B b c) : Kps B a c := Eq.trans k h
theorem kps_b {B : Nat} {w : World} (hB : B < w.heap.size) : ∀ (W : World) (l : Nat) (o o' : Obj), w.heap.size ≤ l → W.heap[l]? = some o → o.isCells = false → o.isWalk = false → Kps B W (W.putObj l o') := fun W l o o' hl _ _ _ => World.putObj_heap_other (by omega)
theorem kps_at {B : Nat} {W W' : World} {T : TypeId} {cs : Array Value} (h : K.At W B T cs) (k : K.At W' B T cs) : Kps B W W' := k.out.trans h.out.symm
theorem at_kept {W W' : World} {row : Option Nat} {g : Nat} {T : TypeId} {cs : Array Value} (h : K.At W g T cs) (hg : W.grownBy W' row) (hr : ∀ r, row = some r → ∃ o : Obj, W.heap[r]? = some o ∧ o.isCells = false) : K.At W' g T cs := by
  refine ⟨(hg.block g h.lt ?_).trans h.out⟩
  rintro e
  obtain ⟨o, ho, hc⟩ := hr g e.symm
  rw [h.out] at ho
  cases ho
  cases hc
set_option maxHeartbeats 1000000 in
theorem most_in (F : Fence) (n : Nat) (hF : F.fn 67) (hro : F.round = none) (s : S) (w : World) :
    CallsIn F n Try.prog 67 #[s.a] w fun e w' => e = .returned (.func (.func 69) #[] #[.pointer (some ⟨w.heap.size, 0, none⟩)]) ∧ w' = w.alloc (.cells s.c 109) := by
  refine callsIn_of_wp Try.func67 rfl hF ?_ hro
  simp only [Try.ntmps67, List.size_toArray, List.length_cons, List.length_nil, Nat.reduceAdd, Nat.reduceSub, Array.replicate_succ, Array.replicate_zero, List.push_toArray, List.append_toArray, List.nil_append, List.cons_append]
  gi_wp2
  go_ret
  exact ⟨rfl, rfl⟩
set_option maxRecDepth 100000 in
set_option maxHeartbeats 2000000 in
theorem most1_in (F : Fence) (n : Nat) (hF : F.fn 69) (hro : F.round = none) (hn : 1 ≤ n) (l B : Nat) (s : S) (hs : Ok s) (J Jx : List I → World → Prop)
    (hY : ∀ pre x W, J pre W → pre.length < 64 → YieldAt F (n - 1) Try.prog l (encs s x) W fun e W' =>
      (e = .returned (.bool true) ∧ J (pre ++ [x]) W' ∧ Kps B W W') ∨ (e = .returned (.bool false) ∧ Jx (pre ++ [x]) W'))
    (W : World) (hA : K.At W B 109 s.c) (h0 : J [] W) :
    CallsIn F n Try.prog 69 #[.func (.yield l) #[] #[], .pointer (some ⟨B, 0, none⟩)] W fun e W' => (∃ v, e = .returned v) ∧
      ((∃ ys, ys = ups 64 ∧ J ys W') ∨ (∃ pre, (∃ k, k ≤ 64 ∧ pre = ups k) ∧ Jx pre W')) := by
  refine callsIn_of_wp Try.func69 rfl hF ?_ hro
  simp only [Try.ntmps69, List.size_toArray, List.length_cons, List.length_nil, Nat.reduceAdd, Nat.reduceSub, Array.replicate_succ, Array.replicate_zero, List.push_toArray, List.append_toArray, List.nil_append, List.cons_append]
  obtain ⟨hc1, hf1, hl1⟩ := K.At.facts hA
  have Hs := K.H.mk hs
  clear hs
  gi_wp2
  clear hc1 hf1 hl1
  gi_loopw [3, 8] (fun m i wr => ∃ k : Nat, k ≤ 64 ∧ i = .int .i64 k ∧ m = .int .i64 (mst s k) ∧ K.At wr B 109 s.c ∧ J (ups k) wr) (fun _ i _ => 64 - (intOf i).toNat)
  case atStart => exact ⟨0, by omega, rfl, rfl, hA, h0⟩
  case round =>
    clear hA h0
    obtain ⟨k, hk, rfl, rfl, hA, hJ⟩ := hrel
    by_cases hlt : k < 64
    · obtain ⟨fn, tmps, assign, body, hy, hR⟩ := hY (ups k) ⟨k, hlt⟩ wr hJ (by rw [ups_len k hk]; omega)
      rw [← ups_succ hlt] at hR
      dsimp only [encs] at hy
      have hm := mst_in Hs.out k
      gi_wp2
      refine hR.mono ?_
      rintro e W3 (⟨rfl, hJ3, hk3⟩ | ⟨rfl, hJx3⟩)
      · have hA3 : K.At W3 B 109 s.c := ⟨hk3.trans hA.out⟩
        obtain ⟨hc3, hf3, hl3⟩ := K.At.facts hA3
        gi_wp2
        go_roundw
        case rel => exact ⟨k + 1, by omega, by go_num, rfl, hA3, hJ3⟩
        case measure => simp [intOf]; omega
      · gi_wp2
        refine bodyPost_ret (results_none rfl _ _ _) rfl ?_
        exact ⟨⟨_, rfl⟩, .inr ⟨ups (k + 1), ⟨k + 1, by omega, rfl⟩, hJx3⟩⟩
    · obtain rfl : k = 64 := by omega
      gi_wp2
      go_end0
      exact ⟨⟨_, rfl⟩, .inl ⟨ups 64, rfl, hJ⟩⟩
theorem most_stops (F : Fence) (n : Nat) (hF : F.fn 69) (hro : F.round = none) (hn : 1 ≤ n) (B : Nat) (s : S) (hs : Ok s) (w : World) (hA : K.At w B 109 s.c) :
    SeqStopsK F n Try.prog 69 #[.pointer (some ⟨B, 0, none⟩)] (encs s) (Kps B) (fun ys => ys = ups 64) (fun pre => ∃ k, k ≤ 64 ∧ pre = ups k) 64 w := fun l J Jx W hW _ _ hY h0 =>
  most1_in F n hF hro hn l B s hs J Jx hY W ⟨(hW.block B hA.lt).trans hA.out⟩ h0
end Go.Proofs.Ytfepjpjkamlneaa.Bof
