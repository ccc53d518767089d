/- The walks of what is called from outside. -/
import Derived.Test.YtkckehpcdjlcpaaBrkW3
namespace Go.Proofs.Ytkckehpcdjlcpaa.Brk
open Go.RowKit Go.Proofs.Ytkckehpcdjlcpaa
attribute [local go_sem] K.max2_int K.min2_int K.max_two K.min_two K.max_three K.min_three
set_option linter.unusedVariables false
set_option linter.unusedSimpArgs false
theorem chk_wrap {b : B} {s : S} {t : Int} (h : chk b s t = 0) : wrap64 (t + s.opn) = t + s.opn ∧ state b = true := by
  unfold chk at h
  split at h
  · rename_i h1
    rw [Bool.and_eq_true, sets_iff, inB_iff] at h1
    split at h
    · rename_i h2; exact ⟨by unfold wrap64; omega, h2⟩
    · cases h
  · cases h
def oEnd (b : B) (s : S) (t : Int) (probe good : Bool) : B := if chk b s t = 0 then ends b s t probe good else zero
def oTick (b : B) (s : S) (t : Int) : B := if chk b s t = 0 then on b t else zero

set_option maxHeartbeats 1000000 in
theorem End_c (b : B) (s : S) (t : Int) (probe good : Bool) (w : World) : Calls Try.prog 12 #[b.a, s.a, .int .i64 t, .bool probe, .bool good] w fun e w' =>
    e = .returned (.tuple #[(oEnd b s t probe good).a, .int .i64 (chk b s t)]) ∧ Below w.heap.size w w' := by
  by_cases h : chk b s t = 0
  · obtain ⟨hz, hb⟩ := chk_wrap h
    have Hz := K.H.mk hz
    have Hh := K.H.mk h
    clear hz h
    go_enter Try.func12, Try.ntmps12
    go_wp2_with (first | (go_at_call 19; (with_reducible refine (ask_ok b s t _ Hh.out).mono ?_); rintro e W1 ⟨g1, hg1, rfl, hA1, hb1⟩; obtain ⟨hB1, hC1, hF1, hZ1⟩ := K.bel_facts hb1; clear hb1; obtain ⟨hc1, hf1, hl1⟩ := K.At.facts hA1; (try simp at hg1); have hn1_0 : w.heap.size ≠ g1 := (by omega); have hn1_1 : w.heap.size + 1 ≠ g1 := (by omega); have hn1_2 : w.heap.size + 2 ≠ g1 := (by omega); have hZZ := hZ1; (try simp at hZZ); have hz1_0 : w.heap.size < W1.heap.size := (by omega); have hz1_1 : w.heap.size + 1 < W1.heap.size := (by omega); have hz1_2 : w.heap.size + 2 < W1.heap.size := (by omega); clear hZZ) | (go_at_call 22; (with_reducible refine (ends_c b s t probe good g1 _ Hz.out hb (by assumption)).mono ?_); rintro e W2 ⟨rfl, hA2, ho2⟩; have hO2 := K.Only.mk ho2; clear ho2; obtain ⟨hC2, hF2, hZ2⟩ := K.only_facts hO2; obtain ⟨hc2, hf2, hl2⟩ := K.At.facts hA2; have hZZ := hZ2; (try simp at hZZ); have hz2_0 : w.heap.size < W2.heap.size := (by omega); have hz2_1 : w.heap.size + 1 < W2.heap.size := (by omega); have hz2_2 : w.heap.size + 2 < W2.heap.size := (by omega); (try have hz2_1_0 : W1.heap.size < W2.heap.size := (by omega)); (try have hz2_1_1 : W1.heap.size + 1 < W2.heap.size := (by omega)); clear hZZ))
    ((try simp only [Exit.inBlock, Exit.then]); refine bodyPost_ret (v := .tuple #[(ends b s t probe good).a, .int .i64 0]) (by simp only [results, Try.results12]; go_simp) rfl ?_)
    exact ⟨by simp [oEnd, Hh.out], (by repeat (first | (with_reducible exact Below.refl _ _) | (with_reducible refine K.b_bel ?_ (by assumption)) | (with_reducible refine K.b_alloc ?_ _) | (with_reducible refine K.b_drewN ?_ _) | (with_reducible refine K.b_drew ?_) | (with_reducible refine K.b_set ?_ (by first | omega | (simp <;> omega)) _) | (with_reducible refine K.b_only ?_ (by assumption) (by first | omega | (simp <;> omega)))))⟩
  · have h2 : (chk b s t == 0) = false := by simpa using h
    have Hh := K.H.mk h
    clear h
    go_enter Try.func12, Try.ntmps12
    go_wp2_with (first | (go_at_call 19; (with_reducible refine (ask_no b s t _ Hh.out).mono ?_); rintro e W1 ⟨g1, hg1, rfl, hA1, hb1⟩; obtain ⟨hB1, hC1, hF1, hZ1⟩ := K.bel_facts hb1; clear hb1; obtain ⟨hc1, hf1, hl1⟩ := K.At.facts hA1; (try simp at hg1); have hn1_0 : w.heap.size ≠ g1 := (by omega); have hn1_1 : w.heap.size + 1 ≠ g1 := (by omega); have hn1_2 : w.heap.size + 2 ≠ g1 := (by omega); have hZZ := hZ1; (try simp at hZZ); have hz1_0 : w.heap.size < W1.heap.size := (by omega); have hz1_1 : w.heap.size + 1 < W1.heap.size := (by omega); have hz1_2 : w.heap.size + 2 < W1.heap.size := (by omega); clear hZZ))
    ((try simp only [Exit.inBlock, Exit.then]); refine bodyPost_ret (v := .tuple #[zero.a, .int .i64 (chk b s t)]) (by simp only [results, Try.results12]; go_simp) rfl ?_)
    exact ⟨by simp [oEnd, Hh.out], (by repeat (first | (with_reducible exact Below.refl _ _) | (with_reducible refine K.b_bel ?_ (by assumption)) | (with_reducible refine K.b_alloc ?_ _) | (with_reducible refine K.b_drewN ?_ _) | (with_reducible refine K.b_drew ?_) | (with_reducible refine K.b_set ?_ (by first | omega | (simp <;> omega)) _) | (with_reducible refine K.b_only ?_ (by assumption) (by first | omega | (simp <;> omega)))))⟩

set_option maxHeartbeats 1000000 in
theorem Tick_c (b : B) (s : S) (t : Int) (w : World) : Calls Try.prog 9 #[b.a, s.a, .int .i64 t] w fun e w' =>
    e = .returned (.tuple #[(oTick b s t).a, .int .i64 (chk b s t)]) ∧ Below w.heap.size w w' := by
  by_cases h : chk b s t = 0
  · obtain ⟨hz, hb⟩ := chk_wrap h
    have Hh := K.H.mk h
    clear hz h
    go_enter Try.func9, Try.ntmps9
    go_wp2_with (first | (go_at_call 19; (with_reducible refine (ask_ok b s t _ Hh.out).mono ?_); rintro e W1 ⟨g1, hg1, rfl, hA1, hb1⟩; obtain ⟨hB1, hC1, hF1, hZ1⟩ := K.bel_facts hb1; clear hb1; obtain ⟨hc1, hf1, hl1⟩ := K.At.facts hA1; (try simp at hg1); have hn1_0 : w.heap.size ≠ g1 := (by omega); have hn1_1 : w.heap.size + 1 ≠ g1 := (by omega); have hn1_2 : w.heap.size + 2 ≠ g1 := (by omega); have hZZ := hZ1; (try simp at hZZ); have hz1_0 : w.heap.size < W1.heap.size := (by omega); have hz1_1 : w.heap.size + 1 < W1.heap.size := (by omega); have hz1_2 : w.heap.size + 2 < W1.heap.size := (by omega); clear hZZ) | (go_at_call 20; (with_reducible refine (on_c b s t g1 _ (by assumption)).mono ?_); rintro e W2 ⟨rfl, hA2, ho2⟩; have hO2 := K.Only.mk ho2; clear ho2; obtain ⟨hC2, hF2, hZ2⟩ := K.only_facts hO2; obtain ⟨hc2, hf2, hl2⟩ := K.At.facts hA2; have hZZ := hZ2; (try simp at hZZ); have hz2_0 : w.heap.size < W2.heap.size := (by omega); have hz2_1 : w.heap.size + 1 < W2.heap.size := (by omega); have hz2_2 : w.heap.size + 2 < W2.heap.size := (by omega); (try have hz2_1_0 : W1.heap.size < W2.heap.size := (by omega)); (try have hz2_1_1 : W1.heap.size + 1 < W2.heap.size := (by omega)); clear hZZ))
    ((try simp only [Exit.inBlock, Exit.then]); refine bodyPost_ret (v := .tuple #[(on b t).a, .int .i64 0]) (by simp only [results, Try.results9]; go_simp) rfl ?_)
    exact ⟨by simp [oTick, Hh.out], (by repeat (first | (with_reducible exact Below.refl _ _) | (with_reducible refine K.b_bel ?_ (by assumption)) | (with_reducible refine K.b_alloc ?_ _) | (with_reducible refine K.b_drewN ?_ _) | (with_reducible refine K.b_drew ?_) | (with_reducible refine K.b_set ?_ (by first | omega | (simp <;> omega)) _) | (with_reducible refine K.b_only ?_ (by assumption) (by first | omega | (simp <;> omega)))))⟩
  · have h2 : (chk b s t == 0) = false := by simpa using h
    have Hh := K.H.mk h
    clear h
    go_enter Try.func9, Try.ntmps9
    go_wp2_with (first | (go_at_call 19; (with_reducible refine (ask_no b s t _ Hh.out).mono ?_); rintro e W1 ⟨g1, hg1, rfl, hA1, hb1⟩; obtain ⟨hB1, hC1, hF1, hZ1⟩ := K.bel_facts hb1; clear hb1; obtain ⟨hc1, hf1, hl1⟩ := K.At.facts hA1; (try simp at hg1); have hn1_0 : w.heap.size ≠ g1 := (by omega); have hn1_1 : w.heap.size + 1 ≠ g1 := (by omega); have hn1_2 : w.heap.size + 2 ≠ g1 := (by omega); have hZZ := hZ1; (try simp at hZZ); have hz1_0 : w.heap.size < W1.heap.size := (by omega); have hz1_1 : w.heap.size + 1 < W1.heap.size := (by omega); have hz1_2 : w.heap.size + 2 < W1.heap.size := (by omega); clear hZZ))
    ((try simp only [Exit.inBlock, Exit.then]); refine bodyPost_ret (v := .tuple #[zero.a, .int .i64 (chk b s t)]) (by simp only [results, Try.results9]; go_simp) rfl ?_)
    exact ⟨by simp [oTick, Hh.out], (by repeat (first | (with_reducible exact Below.refl _ _) | (with_reducible refine K.b_bel ?_ (by assumption)) | (with_reducible refine K.b_alloc ?_ _) | (with_reducible refine K.b_drewN ?_ _) | (with_reducible refine K.b_drew ?_) | (with_reducible refine K.b_set ?_ (by first | omega | (simp <;> omega)) _) | (with_reducible refine K.b_only ?_ (by assumption) (by first | omega | (simp <;> omega)))))⟩

def oAllows (b : B) (s : S) (t : Int) : Bool := decide (chk b s t = 0) && allows b s
set_option maxHeartbeats 1000000 in
theorem Allows_c (b : B) (s : S) (t : Int) (w : World) : Calls Try.prog 15 #[b.a, s.a, .int .i64 t] w fun e w' =>
    e = .returned (.tuple #[.bool (oAllows b s t), .int .i64 (chk b s t)]) ∧ Below w.heap.size w w' := by
  by_cases h : chk b s t = 0
  · obtain ⟨hz, hb⟩ := chk_wrap h
    have Hh := K.H.mk h
    clear hz h
    go_enter Try.func15, Try.ntmps15
    go_wp2_with (first | (go_at_call 19; (with_reducible refine (ask_ok b s t _ Hh.out).mono ?_); rintro e W1 ⟨g1, hg1, rfl, hA1, hb1⟩; obtain ⟨hB1, hC1, hF1, hZ1⟩ := K.bel_facts hb1; clear hb1; obtain ⟨hc1, hf1, hl1⟩ := K.At.facts hA1; (try simp at hg1); have hn1_0 : w.heap.size ≠ g1 := (by omega); have hn1_1 : w.heap.size + 1 ≠ g1 := (by omega); have hZZ := hZ1; (try simp at hZZ); have hz1_0 : w.heap.size < W1.heap.size := (by omega); have hz1_1 : w.heap.size + 1 < W1.heap.size := (by omega); clear hZZ) | (go_at_call 21; (with_reducible refine (allows_c b s t g1 _ (by assumption)).mono ?_); rintro e W2 ⟨rfl, hb2⟩; obtain ⟨hB2, hC2, hF2, hZ2⟩ := K.bel_facts hb2; clear hb2))
    go_ret2
    exact ⟨by simp [oAllows, Hh.out], (by repeat (first | (with_reducible exact Below.refl _ _) | (with_reducible refine K.b_bel ?_ (by assumption)) | (with_reducible refine K.b_alloc ?_ _) | (with_reducible refine K.b_drewN ?_ _) | (with_reducible refine K.b_drew ?_) | (with_reducible refine K.b_set ?_ (by first | omega | (simp <;> omega)) _) | (with_reducible refine K.b_only ?_ (by assumption) (by first | omega | (simp <;> omega)))))⟩
  · have h2 : (chk b s t == 0) = false := by simpa using h
    have Hh := K.H.mk h
    clear h
    go_enter Try.func15, Try.ntmps15
    go_wp2_with (first | (go_at_call 19; (with_reducible refine (ask_no b s t _ Hh.out).mono ?_); rintro e W1 ⟨g1, hg1, rfl, hA1, hb1⟩; obtain ⟨hB1, hC1, hF1, hZ1⟩ := K.bel_facts hb1; clear hb1; obtain ⟨hc1, hf1, hl1⟩ := K.At.facts hA1; (try simp at hg1); have hn1_0 : w.heap.size ≠ g1 := (by omega); have hn1_1 : w.heap.size + 1 ≠ g1 := (by omega); have hZZ := hZ1; (try simp at hZZ); have hz1_0 : w.heap.size < W1.heap.size := (by omega); have hz1_1 : w.heap.size + 1 < W1.heap.size := (by omega); clear hZZ))
    go_ret2
    exact ⟨by simp [oAllows, Hh.out], (by repeat (first | (with_reducible exact Below.refl _ _) | (with_reducible refine K.b_bel ?_ (by assumption)) | (with_reducible refine K.b_alloc ?_ _) | (with_reducible refine K.b_drewN ?_ _) | (with_reducible refine K.b_drew ?_) | (with_reducible refine K.b_set ?_ (by first | omega | (simp <;> omega)) _) | (with_reducible refine K.b_only ?_ (by assumption) (by first | omega | (simp <;> omega)))))⟩
end Go.Proofs.Ytkckehpcdjlcpaa.Brk
