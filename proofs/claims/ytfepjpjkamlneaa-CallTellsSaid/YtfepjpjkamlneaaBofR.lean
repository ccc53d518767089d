/- Backoff: Most, and Row. -/
import Derived.Test.YtfepjpjkamlneaaBofA
import Derived.Test.YtfepjpjkamlneaaSl
set_option linter.unusedVariables false
namespace Go.Proofs.Ytfepjpjkamlneaa.Bof
open Go.RowKit Go.Shelf Go.Proofs.Ytfepjpjkamlneaa
attribute [local go_sem] Oper.semAt_some
attribute [local go_sem] K.max2_int K.min2_int K.max_two K.min_two K.max_three K.min_three
set_option linter.unusedSimpArgs false
/-- Most: the code, the number. -/
def eMost (s : S) (n : Int) : Int := if Ok s then (if 1 ≤ n ∧ n ≤ 64 then 0 else 3) else 4
def oMost (s : S) (n : Int) : Int := if eMost s n = 0 then mstI s n else 0
theorem most_4 {s : S} {n : Int} (h : ¬ Ok s) : eMost s n = 4 ∧ oMost s n = 0 := by simp [eMost, oMost, h]
theorem most_3 {s : S} {n : Int} (h : Ok s) (h2 : n < 1 ∨ 64 < n) : eMost s n = 3 ∧ oMost s n = 0 := by
  have : ¬ (1 ≤ n ∧ n ≤ 64) := by omega
  simp [eMost, oMost, h, this]
theorem most_0 {s : S} {n : Int} (h : Ok s) (h2 : 1 ≤ n ∧ n ≤ 64) : eMost s n = 0 ∧ oMost s n = mstI s n := by simp [eMost, oMost, h, h2]
theorem Most_c (s : S) (n : Int) (w : World) : Calls Try.prog 60 #[s.a, .int .i64 n] w fun e w' => e = .returned (.tuple #[.int .i64 (oMost s n), .int .i64 (eMost s n)]) ∧ Below w.heap.size w w' := by
  by_cases h : Ok s
  · have HC : ∀ W, Calls Try.prog 53 #[s.a] W fun e w' => e = .returned (.int .i64 0) ∧ Below W.heap.size W w' := fun W => by
      have h2 := chk_c s W
      rw [chk_0 h] at h2; exact h2
    have GC := K.H.mk HC
    have Hh := K.H.mk h
    clear HC h
    by_cases h2 : 1 ≤ n ∧ n ≤ 64
    · have HM : ∀ W, Calls Try.prog 65 #[s.a, .int .i64 n] W fun e w' => e = .returned (.int .i64 (mstI s n)) ∧ Below W.heap.size W w' := fun W => at_c s Hh.out n h2.1 h2.2 W
      have GM := K.H.mk HM
      have E := K.H.mk (most_0 Hh.out h2)
      clear HM
      obtain ⟨n1, n2⟩ := h2
      rw [E.out.1, E.out.2]
      go_enter Try.func60, Try.ntmps60
      go_wp2_with (first | (go_at_call 53; (with_reducible refine (GC.out _).mono ?_); rintro e W1 ⟨rfl, hb1⟩; obtain ⟨hB1, hC1, hF1, hZ1⟩ := K.bel_facts hb1; clear hb1; have hZZ := hZ1; (try simp at hZZ); have hz1_0 : w.heap.size < W1.heap.size := (by omega); clear hZZ) | (go_at_call 65; (with_reducible refine (GM.out _).mono ?_); rintro e W2 ⟨rfl, hb2⟩; obtain ⟨hB2, hC2, hF2, hZ2⟩ := K.bel_facts hb2; clear hb2))
      all_goals first | (exfalso; omega) | (go_ret2; exact ⟨rfl, (by repeat (first | (with_reducible exact Below.refl _ _) | (with_reducible refine K.b_bel ?_ (by assumption)) | (with_reducible refine K.b_alloc ?_ _) | (with_reducible refine K.b_drewN ?_ _) | (with_reducible refine K.b_drew ?_) | (with_reducible refine K.b_set ?_ (by first | omega | (simp <;> omega)) _) | (with_reducible refine K.b_only ?_ (by assumption) (by first | omega | (simp <;> omega)))))⟩)
    · have E := K.H.mk (most_3 (n := n) Hh.out (by omega))
      rw [E.out.1, E.out.2]
      go_enter Try.func60, Try.ntmps60
      go_wp2_with (first | (go_at_call 53; (with_reducible refine (GC.out _).mono ?_); rintro e W1 ⟨rfl, hb1⟩; obtain ⟨hB1, hC1, hF1, hZ1⟩ := K.bel_facts hb1; clear hb1; have hZZ := hZ1; (try simp at hZZ); have hz1_0 : w.heap.size < W1.heap.size := (by omega); clear hZZ))
      all_goals first | (exfalso; omega) | (go_ret2; exact ⟨rfl, (by repeat (first | (with_reducible exact Below.refl _ _) | (with_reducible refine K.b_bel ?_ (by assumption)) | (with_reducible refine K.b_alloc ?_ _) | (with_reducible refine K.b_drewN ?_ _) | (with_reducible refine K.b_drew ?_) | (with_reducible refine K.b_set ?_ (by first | omega | (simp <;> omega)) _) | (with_reducible refine K.b_only ?_ (by assumption) (by first | omega | (simp <;> omega)))))⟩)
  · have HC : ∀ W, Calls Try.prog 53 #[s.a] W fun e w' => e = .returned (.int .i64 4) ∧ Below W.heap.size W w' := fun W => by
      have h2 := chk_c s W
      rw [chk_4 h] at h2; exact h2
    have GC := K.H.mk HC
    have E := K.H.mk (most_4 (n := n) h)
    rw [E.out.1, E.out.2]
    clear HC h
    go_enter Try.func60, Try.ntmps60
    go_wp2_with (first | (go_at_call 53; (with_reducible refine (GC.out _).mono ?_); rintro e W1 ⟨rfl, hb1⟩; obtain ⟨hB1, hC1, hF1, hZ1⟩ := K.bel_facts hb1; clear hb1; have hZZ := hZ1; (try simp at hZZ); have hz1_0 : w.heap.size < W1.heap.size := (by omega); clear hZZ))
    go_ret2
    exact ⟨rfl, (by repeat (first | (with_reducible exact Below.refl _ _) | (with_reducible refine K.b_bel ?_ (by assumption)) | (with_reducible refine K.b_alloc ?_ _) | (with_reducible refine K.b_drewN ?_ _) | (with_reducible refine K.b_drew ?_) | (with_reducible refine K.b_set ?_ (by first | omega | (simp <;> omega)) _) | (with_reducible refine K.b_only ?_ (by assumption) (by first | omega | (simp <;> omega)))))⟩
/-- What Row tells: a row of its own, an error. -/
def RowPost (w : World) (told : List Int) (er : Int) (e : Ending) (w' : World) : Prop :=
  ∃ v, e = .returned (.tuple #[v, .int .i64 er]) ∧ w'.ownsRow w.heap.size 3 1 v told.length (told.map (Value.int .i64)) ∧ Below w.heap.size w w'
def eRow (s : S) (n : Int) : Int := if Ok s then (if 0 ≤ n ∧ n ≤ 64 then 0 else 3) else 4
def oRow (s : S) (n : Int) : List Int := if eRow s n = 0 then (List.range n.toNat).map (mst s) else []
theorem row_4 {s : S} {n : Int} (h : ¬ Ok s) : eRow s n = 4 ∧ oRow s n = [] := by simp [eRow, oRow, h]
theorem row_3 {s : S} {n : Int} (h : Ok s) (h2 : n < 0 ∨ 64 < n) : eRow s n = 3 ∧ oRow s n = [] := by
  have : ¬ (0 ≤ n ∧ n ≤ 64) := by omega
  simp [eRow, oRow, h, this]
theorem row_0 {s : S} {n : Int} (h : Ok s) (h2 : 0 ≤ n ∧ n ≤ 64) : eRow s n = 0 ∧ oRow s n = (List.range n.toNat).map (mst s) := by simp [eRow, oRow, h, h2]
theorem ups_map (s : S) : ∀ k, k ≤ 64 → (ups k).map (fun x => mst s x.1) = (List.range k).map (mst s)
  | 0, _ => rfl
  | k + 1, h => by rw [ups_succ (by omega), List.map_append, ups_map s k (by omega), List.range_succ, List.map_append]; rfl
theorem mem_ups {k : Nat} {x : I} (h : x.1 < k) : x ∈ ups k := by
  simp only [ups, List.mem_filterMap, List.mem_range]
  exact ⟨x.1, h, by simp [x.2]⟩
theorem info_int : (Try.prog.info? 3).map (fun i => (i.zero, i.size, i.bytes)) = some (some (.int .i64 0), 1, 8) := by kernel_rfl
end Go.Proofs.Ytfepjpjkamlneaa.Bof
