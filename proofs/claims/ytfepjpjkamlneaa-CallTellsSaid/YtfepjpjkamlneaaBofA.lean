/- Backoff: of one retry, how long it waits at most. -/
import Derived.Test.YtfepjpjkamlneaaBofI
set_option linter.unusedVariables false
namespace Go.Proofs.Ytfepjpjkamlneaa.Bof
open Go.RowKit Go.Shelf Go.Proofs.Ytfepjpjkamlneaa
attribute [local go_sem] Oper.semAt_some
attribute [local go_sem] K.max2_int K.min2_int K.max_two K.min_two K.max_three K.min_three
set_option linter.unusedSimpArgs false
theorem at_own {β : Type} (B g : Nat) (T : TypeId) (cs : β → Array Value) : OwnFrom B (fun s W => K.At W g T (cs s)) := fun s W W' row hs hg hr => at_kept hs hg (fun r e => (hr r e).2)
set_option maxRecDepth 100000 in
set_option maxHeartbeats 2000000 in
theorem at_in (F : Fence) (n : Nat) (h4 : F.fn 65) (h5 : F.fn 67) (h6 : F.fn 69) (hro : F.round = none) (hn : 3 ≤ n) (s : S) (hs : Ok s) (k : Int) (hk0 : 1 ≤ k) (hk1 : k ≤ 64) (w : World) :
    CallsIn F n Try.prog 65 #[s.a, .int .i64 k] w fun e W' => e = .returned (.int .i64 (mst s (k - 1).toNat)) ∧ Below w.heap.size w W' := by
  have h1 : 1 ≤ n := by omega
  have Hs := K.H.mk hs
  clear hs
  refine callsIn_of_wp_marks Try.func65 rfl h4 ?_ hro
  simp only [Try.ntmps65, List.size_toArray, List.length_cons, List.length_nil, Nat.reduceAdd, Nat.reduceSub, Array.replicate_succ, Array.replicate_zero, List.push_toArray, List.append_toArray, List.nil_append, List.cons_append]
  gi_wp2_with (gi_at_call 67; refine (most_in F (n - 1) h5 hro s _).mono ?_; rintro e w' ⟨rfl, rfl⟩)
  have hB0 : Below w.heap.size w ((((w.alloc (.cells s.c 109)).alloc (.cells #[.int .i64 k] 3)).alloc (.cells #[.int .i64 0] 3)).alloc (.cells s.c 109)) := (by repeat (first | (with_reducible exact Below.refl _ _) | (with_reducible refine K.b_bel ?_ (by assumption)) | (with_reducible refine K.b_alloc ?_ _) | (with_reducible refine K.b_drewN ?_ _) | (with_reducible refine K.b_drew ?_) | (with_reducible refine K.b_set ?_ (by first | omega | (simp <;> omega)) _) | (with_reducible refine K.b_only ?_ (by assumption) (by first | omega | (simp <;> omega)))))
  refine wpIn_rangeFunc_ownF hro h1 (gf := 69) (lb := #[.pointer (some ⟨w.heap.size + 1 + 1 + 1, 0, none⟩)]) rfl h6 (enters_of Try.func69 (by kernel_rfl) rfl)
    (most_stops F (n - 1) h6 hro (by omega) (w.heap.size + 1 + 1 + 1) s Hs.out _ (by refine K.At.cast (by repeat (first | (with_reducible refine K.At.new' _ _ _ _ (by first | rfl | (simp; done) | omega)) | (with_reducible apply K.At.set) | (with_reducible apply K.At.alloc) | (with_reducible apply K.At.drewN) | (with_reducible apply K.At.drew) | (with_reducible apply K.At.far) | omega | (simp <;> omega))) ?_; rfl)) kps_t (kps_b (by simp)) (Below.refl _ _) (fun _ => rfl)
    (fun pre W => ((∀ y ∈ pre, ((y.1 : Int) + 1) ≠ k) ∧ K.At W (w.heap.size + 1) 3 #[.int .i64 k] ∧ K.At W (w.heap.size + 2) 3 #[.int .i64 0]) ∧ Below w.heap.size w W)
    (fun c pre W => (c = .ret ∧ (∃ y : I, ((y.1 : Int) + 1) = k ∧ y ∈ pre) ∧ K.At W (w.heap.size + 2) 3 #[.int .i64 (mst s (k - 1).toNat)]) ∧ Below w.heap.size w W)
    (OwnFrom.and (Own.from (fun s A B row hs hg hr => ⟨hs.1, at_kept hs.2.1 hg hr, at_kept hs.2.2 hg hr⟩) _) (ownFrom_below (Nat.le_refl _) (by simp; omega)))
    (fun c => OwnFrom.and (Own.from (fun s A B row hs hg hr => ⟨hs.1, hs.2.1, at_kept hs.2.2 hg hr⟩) _) (ownFrom_below (Nat.le_refl _) (by simp; omega)))
    ⟨⟨by simp, (by refine K.At.cast (by repeat (first | (with_reducible refine K.At.new' _ _ _ _ (by first | rfl | (simp; done) | omega)) | (with_reducible apply K.At.set) | (with_reducible apply K.At.alloc) | (with_reducible apply K.At.drewN) | (with_reducible apply K.At.drew) | (with_reducible apply K.At.far) | omega | (simp <;> omega))) ?_; rfl), (by refine K.At.cast (by repeat (first | (with_reducible refine K.At.new' _ _ _ _ (by first | rfl | (simp; done) | omega)) | (with_reducible apply K.At.set) | (with_reducible apply K.At.alloc) | (with_reducible apply K.At.drewN) | (with_reducible apply K.At.drew) | (with_reducible apply K.At.far) | omega | (simp <;> omega))) ?_; rfl)⟩, hB0⟩
    (fun x => { tmps := #[s.a, .int .i64 k, .pointer (some ⟨w.heap.size, 0, none⟩), .pointer (some ⟨w.heap.size + 1, 0, none⟩), .pointer (some ⟨w.heap.size + 1 + 1, 0, none⟩), .int .i64 (x.1 + 1), .int .i64 (mst s x.1), s.a, .func (.func 69) #[] #[.pointer (some ⟨w.heap.size + 1 + 1 + 1, 0, none⟩)], .int .i64 (x.1 + 1), .int .i64 (mst s x.1), undef, undef, undef, undef, undef, undef, undef], defers := [] }) ?assign ?body ?done ?stop
  case assign =>
    intro l x W K hK
    gi_wp2
    exact hK
  case body =>
    rintro l pre x W ⟨⟨hp, hN, hR⟩, hB⟩ _
    obtain ⟨hc1, hf1, hl1⟩ := K.At.facts hN
    obtain ⟨hc2, hf2, hl2⟩ := K.At.facts hR
    gi_wp2
    · rename_i hx
      have hx := eq_of_beq hx
      have e : x.1 = (k - 1).toNat := by omega
      rw [← e]
      exact ⟨KeepsOthers.setCell _ _ _, ⟨rfl, ⟨x, hx, List.mem_append.2 (.inr (by simp))⟩, hR.set 0 _⟩, hB.setCell (p := ⟨w.heap.size + 2, 0, none⟩) (by simp) _⟩
    · rename_i hx
      exact ⟨KeepsOthers.refl _, rfl, ⟨fun y hy => (List.mem_append.1 hy).elim (hp y) (fun e e' => by simp at e; subst e; subst e'; simp at hx), hN, hR⟩, hB⟩
  case done =>
    rintro D ys W hD rfl ⟨⟨hne, _, _⟩, hB⟩ hK
    exfalso
    refine hne ⟨(k - 1).toNat, by omega⟩ ?_ (by simp; omega)
    simp only [ups, List.mem_filterMap, List.mem_range]
    exact ⟨(k - 1).toNat, by omega, by simp; omega⟩
  case stop =>
    rintro D c pre W hD hpre ⟨⟨rfl, _, hR⟩, hB⟩ hK
    gi_wp2
    refine ⟨by simp, .inl ⟨_, _, rfl, run_takeDeferred hK, ?_⟩⟩
    have hR5 := at_kept hR (grownBy_putObj' _ D (.deferred none)) (fun r e => by cases e; exact ⟨_, hK, rfl⟩)
    have hc5 := hR5.cell 0
    refine ⟨.int .i64 (mst s (k - 1).toNat), ?_, rfl, hB.trans (belowK_b (w := w) (Nat.le_refl _) W D _ _ (by simp at hD; omega) hK rfl rfl)⟩
    simp [results, Try.f65, go_sem, hc5]
/-- What the retry n waits at most. -/
def mstI (s : S) (n : Int) : Int := mst s (n - 1).toNat
theorem at_c (s : S) (hs : Ok s) (k : Int) (hk0 : 1 ≤ k) (hk1 : k ≤ 64) (w : World) :
    Calls Try.prog 65 #[s.a, .int .i64 k] w fun e W' => e = .returned (.int .i64 (mstI s k)) ∧ Below w.heap.size w W' :=
  callsIn_wide.1 (at_in Fence.wide 3 trivial trivial trivial rfl (by omega) s hs k hk0 hk1 w)
end Go.Proofs.Ytfepjpjkamlneaa.Bof
