/- Subset: the library's sort; rounds; a client's subset. -/
import Derived.Test.YtpafbjffecpdmaaSb2
import Derived.Test.YtpafbjffecpdmaaSbL
import Derived.Test.YtpafbjffecpdmaaCln
import Derived.Sort.OwnSortedInts
set_option linter.unusedVariables false
namespace Go.Proofs.Ytpafbjffecpdmaa.Sb
open Go.RowKit Go.Proofs.Ytpafbjffecpdmaa
attribute [local go_sem] K.max2_int K.min2_int K.max_two K.min_two K.max_three K.min_three
set_option linter.unusedSimpArgs false
def sortI (L : List Int) : List Int := L.mergeSort fun x y => decide (x ≤ y)
theorem sortI_perm (L : List Int) : (sortI L).Perm L := List.mergeSort_perm L _
theorem sortI_len (L : List Int) : (sortI L).length = L.length := (sortI_perm L).length_eq
theorem sortI_le (L : List Int) : (sortI L).Pairwise (· ≤ ·) := by
  have := List.pairwise_mergeSort (le := fun x y : Int => decide (x ≤ y)) (fun a b c h1 h2 => by simp at *; omega) (fun a b => by simp; omega) L
  exact this.imp (fun h => by simpa using h)
theorem sortI_eq {L M : List Int} (hp : M.Perm L) (hs : M.Pairwise (· ≤ ·)) : sortI L = M :=
  List.Perm.eq_of_pairwise (le := (· ≤ ·)) (fun a b _ _ h1 h2 => by omega) (sortI_le L) hs ((sortI_perm L).trans hp.symm)
/-- slices.Sort of a row that the call owns. -/
theorem Sort_c (L : List Int) (v : Value) (base n : Nat) (w : World) (hown : w.ownsRow base 3 1 v n (L.map iv)) (hn : 0 < n) (hsz : n < 4611686018427387904) :
    Calls Try.prog 40 #[v] w fun e w' => e = .returned (.tuple #[]) ∧ w'.ownsRow base 3 1 v n ((sortI L).map iv) ∧ w.grownBy w' v.ownBlock := by
  have hl : L.length = n := by have := hown.1; simpa using this
  subst hl
  rcases hown.2 with ⟨_, h0⟩ | ⟨g, cap, cur, rfl, hb, hg, h1, h2, h3, h4⟩
  · simp at h0; subst h0; simp at hn
  · have hc := AnyG.slices_Sort_int Try.sort g 0 cap L w (holds_of_blockI hg (by simpa using h4)) (Array.getElem?_eq_some_iff.1 hg).1 hsz
    have hc' : Calls Try.prog 40 #[.slice (some ⟨g, 0, none⟩) L.length cap] w _ := hc
    refine hc'.mono ?_
    rintro e w' ⟨rfl, q, os, rfl⟩
    exact ⟨rfl, ownsRow_sortedI (sortI_len L) hb hg h1 h2 h3, grownBy_sortedI _⟩
/-! ### Rounds -/
def rndBad (n client size : Int) : Prop := n < 0 ∨ 32 < n ∨ client < 0 ∨ 1048576 < client ∨ size < 1 ∨ 32 < size
instance (a b c : Int) : Decidable (rndBad a b c) := by unfold rndBad; infer_instance
def rnd (n client size : Int) : Int × Int × Int :=
  if rndBad n client size then (0, 0, 4) else if n ≤ size then (0, 0, 0) else (client / (n / size), client % (n / size), 0)
theorem rnd_4 {n c s : Int} (h : rndBad n c s) : rnd n c s = (0, 0, 4) := by unfold rnd; rw [if_pos h]
theorem rnd_0 {n c s : Int} (h : ¬ rndBad n c s) (h2 : n ≤ s) : rnd n c s = (0, 0, 0) := by unfold rnd; rw [if_neg h, if_pos h2]
theorem rnd_1 {n c s : Int} (h : ¬ rndBad n c s) (h2 : ¬ n ≤ s) : rnd n c s = (c / (n / s), c % (n / s), 0) := by unfold rnd; rw [if_neg h, if_neg h2]
set_option maxRecDepth 100000 in
set_option maxHeartbeats 2000000 in
theorem Round_c (n c s : Int) (w : World) : Calls Try.prog 13 #[.int .i64 n, .int .i64 c, .int .i64 s] w fun e w' => e = .returned (.tuple #[.int .i64 (rnd n c s).1, .int .i64 (rnd n c s).2.1, .int .i64 (rnd n c s).2.2]) ∧ Below w.heap.size w w' := by
  by_cases h : rndBad n c s
  · rw [rnd_4 h]
    have H := K.H.mk h
    clear h
    go_enter Try.func13, Try.ntmps13
    go_wp2
    all_goals first
      | (go_ret3; exact ⟨rfl, (by repeat (first | (with_reducible exact Below.refl _ _) | (with_reducible refine K.b_bel ?_ (by assumption)) | (with_reducible refine K.b_alloc ?_ _) | (with_reducible refine K.b_drewN ?_ _) | (with_reducible refine K.b_drew ?_) | (with_reducible refine K.b_set ?_ (by first | omega | (simp <;> omega)) _) | (with_reducible refine K.b_only ?_ (by assumption) (by first | omega | (simp <;> omega)))))⟩)
      | (exfalso; have h := H.out; clear H; go_light; unfold rndBad at h; (try simp only [decide_eq_true_eq, decide_eq_false_iff_not] at *); omega)
  · have h0 := h
    unfold rndBad at h0
    have d1 : decide (n < 0) = false := decide_eq_false (by omega)
    have d2 : decide (32 < n) = false := decide_eq_false (by omega)
    have d3 : decide (c < 0) = false := decide_eq_false (by omega)
    have d4 : decide (1048576 < c) = false := decide_eq_false (by omega)
    have d5 : decide (s < 1) = false := decide_eq_false (by omega)
    have d6 : decide (32 < s) = false := decide_eq_false (by omega)
    by_cases h2 : n ≤ s
    · rw [rnd_0 h h2]
      have d7 : decide (n ≤ s) = true := decide_eq_true h2
      clear h h0 h2
      go_enter Try.func13, Try.ntmps13
      go_wp2
      go_ret3
      exact ⟨rfl, (by repeat (first | (with_reducible exact Below.refl _ _) | (with_reducible refine K.b_bel ?_ (by assumption)) | (with_reducible refine K.b_alloc ?_ _) | (with_reducible refine K.b_drewN ?_ _) | (with_reducible refine K.b_drew ?_) | (with_reducible refine K.b_set ?_ (by first | omega | (simp <;> omega)) _) | (with_reducible refine K.b_only ?_ (by assumption) (by first | omega | (simp <;> omega)))))⟩
    · rw [rnd_1 h h2]
      have d7 : decide (n ≤ s) = false := decide_eq_false h2
      have hs0 : s ≠ 0 := by omega
      have hs1 : s ≠ -1 := by omega
      have he1 : 1 ≤ n / s := Int.le_ediv_of_mul_le (by omega) (by omega)
      have he2 : n / s ≤ 32 := by have := Int.ediv_le_self s (a := n) (by omega); omega
      have e1 : n.tdiv s = n / s := Int.tdiv_eq_ediv_of_nonneg (by omega)
      have e2 : c.tdiv (n / s) = c / (n / s) := Int.tdiv_eq_ediv_of_nonneg (by omega)
      have e3 : c.tmod (n / s) = c % (n / s) := Int.tmod_eq_emod_of_nonneg (by omega)
      have hq0 : 0 ≤ c / (n / s) := Int.ediv_nonneg (by omega) (by omega)
      have hq1 : c / (n / s) ≤ c := Int.ediv_le_self _ (by omega)
      have hw : wrap64 (c / (n / s)) = c / (n / s) := IntWalk.wrap64_in _ (by omega)
      generalize n / s = q at *
      have hz0 : q ≠ 0 := by omega
      have hz1 : q ≠ -1 := by omega
      clear h h2 h0
      go_enter Try.func13, Try.ntmps13
      go_wp2
      go_region
      all_goals go_wp2
      all_goals (go_ret3; refine ⟨?_, (by repeat (first | (with_reducible exact Below.refl _ _) | (with_reducible refine K.b_bel ?_ (by assumption)) | (with_reducible refine K.b_alloc ?_ _) | (with_reducible refine K.b_drewN ?_ _) | (with_reducible refine K.b_drew ?_) | (with_reducible refine K.b_set ?_ (by first | omega | (simp <;> omega)) _) | (with_reducible refine K.b_only ?_ (by assumption) (by first | omega | (simp <;> omega)))))⟩; simp [hw])
end Go.Proofs.Ytpafbjffecpdmaa.Sb
