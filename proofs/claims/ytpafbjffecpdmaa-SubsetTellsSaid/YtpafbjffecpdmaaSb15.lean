/- SubsetEven: the plain law. -/
import Derived.Test.YtpafbjffecpdmaaSb14
set_option linter.unusedVariables false
namespace Go.Proofs.Ytpafbjffecpdmaa.Sb
open Go.RowKit Go.Proofs.Ytpafbjffecpdmaa
set_option linter.unusedSimpArgs false
theorem below1_at {ids : List Int} (hs : ids.Pairwise (· < ·)) {j : Nat} (hj : j < ids.length) : below1 ids (ids.getD j 0) = j := by
  have e : ids.getD j 0 = ids[j] := by rw [List.getD_eq_getElem?_getD, List.getElem?_eq_getElem hj]; rfl
  rw [e]
  rw [List.pairwise_iff_getElem] at hs
  obtain ⟨x, hx⟩ : ∃ x, x = ids[j] := ⟨_, rfl⟩
  rw [← hx]
  have h2 : (ids.take j).countP (fun y => decide (y < x)) = (ids.take j).length := by
    rw [List.countP_eq_length]
    intro y hy
    obtain ⟨i, hi, rfl⟩ := List.getElem_of_mem hy
    rw [List.length_take] at hi
    rw [List.getElem_take]
    have := hs i j (by omega) hj (by omega)
    rw [hx]; simpa using this
  have h3 : (ids.drop j).countP (fun y => decide (y < x)) = 0 := by
    rw [List.countP_eq_zero]
    intro y hy
    obtain ⟨i, hi, rfl⟩ := List.getElem_of_mem hy
    rw [List.length_drop] at hi
    rw [List.getElem_drop, hx]
    rcases Nat.eq_or_lt_of_le (Nat.zero_le i) with h0 | h0
    · subst h0; simp
    · have := hs j (j + i) hj (by omega) (by omega)
      simp; omega
  have h4 : ids.countP (fun y => decide (y < x)) = (ids.take j).countP (fun y => decide (y < x)) + (ids.drop j).countP (fun y => decide (y < x)) := by
    rw [← List.countP_append, List.take_append_drop]
  unfold below1
  rw [h4, h2, h3, List.length_take]; omega
theorem mem_getD {ids : List Int} {x : Int} (h : x ∈ ids) : ∃ j, j < ids.length ∧ x = ids.getD j 0 := by
  obtain ⟨j, hj, rfl⟩ := List.getElem_of_mem h
  exact ⟨j, hj, by rw [List.getD_eq_getElem?_getD, List.getElem?_eq_getElem hj]; rfl⟩
theorem bump_getD (o : List Int) {b : Nat} (hb : b < o.length) (i : Nat) : (bump o b).getD i 0 = o.getD i 0 + (if i = b then 1 else 0) := by
  unfold bump
  rw [List.getD_eq_getElem?_getD]
  by_cases h : i = b
  · subst h; rw [List.getElem?_set_self hb, if_pos rfl]; rfl
  · rw [List.getElem?_set_ne (fun e => h e.symm), if_neg h, ← List.getD_eq_getElem?_getD]; omega
theorem addL_at {ids : List Int} (hs : ids.Pairwise (· < ·)) {i : Nat} (hi : i < ids.length) : ∀ (l o : List Int), l.Nodup → (∀ x ∈ l, x ∈ ids) → o.length = ids.length → (addL ids o l).getD i 0 = o.getD i 0 + (if ids.getD i 0 ∈ l then 1 else 0)
  | [], o, _, _, _ => by simp [addL]
  | x :: r, o, hn, hin, ho => by
    obtain ⟨j, hj, hx⟩ := mem_getD (hin x (by simp))
    have hb : below1 ids x = j := by rw [hx]; exact below1_at hs hj
    have ih := addL_at hs hi r (bump o j) (List.nodup_cons.1 hn).2 (fun y hy => hin y (by simp [hy])) (by rw [bump_len]; exact ho)
    have e : addL ids o (x :: r) = addL ids (bump o j) r := by unfold addL; rw [List.foldl_cons, hb]
    rw [e, ih, bump_getD o (by omega)]
    have hnx := (List.nodup_cons.1 hn).1
    by_cases h : i = j
    · subst h
      rw [if_pos rfl, ← hx, if_neg hnx, if_pos (by simp)]; omega
    · have hne : ids.getD i 0 ≠ x := fun e2 => h (lt_get hs hi hj (by rw [e2, hx]))
      rw [if_neg h]
      by_cases h2 : ids.getD i 0 ∈ r
      · rw [if_pos h2, if_pos (List.mem_cons.2 (.inr h2))]; omega
      · rw [if_neg h2, if_neg (fun e => (List.mem_cons.1 e).elim hne h2)]; omega
theorem sum_bump (o : List Int) {b : Nat} (hb : b < o.length) : (bump o b).sum = o.sum + 1 := by
  have h : ∀ (o : List Int) (b : Nat), b < o.length → (o.set b (o.getD b 0 + 1)).sum = o.sum + 1 := by
    intro o
    induction o with
    | nil => intro b hb; simp at hb
    | cons a r ih =>
      intro b hb
      cases b with
      | zero => simp; omega
      | succ b =>
        have := ih b (by simpa using hb)
        rw [List.getD_cons_succ, List.set_cons_succ, List.sum_cons, List.sum_cons, this]; omega
  exact h o b hb
theorem sum_addL {ids : List Int} : ∀ (l o : List Int), (∀ x ∈ l, x ∈ ids) → o.length = ids.length → (addL ids o l).sum = o.sum + l.length
  | [], o, _, _ => by simp [addL]
  | x :: r, o, hin, ho => by
    have e : addL ids o (x :: r) = addL ids (bump o (below1 ids x)) r := by unfold addL; rw [List.foldl_cons]
    rw [e, sum_addL r _ (fun y hy => hin y (by simp [hy])) (by rw [bump_len]; exact ho), sum_bump o (by rw [ho]; exact below1_lt (hin x (by simp)))]
    simp; omega
theorem sum_cntG {of : Nat → List Int} {ids : List Int} {z : Nat} (hin : ∀ c, ∀ x ∈ of c, x ∈ ids) (C : Nat) (hz : ∀ c, c < C → (of c).length = z) : (cntG of ids C).sum = (C : Int) * z := by
  induction C with
  | zero => simp [cntG]
  | succ C ih =>
    unfold cntG
    rw [sum_addL _ _ (hin C) (cntG_len of ids C), ih (fun c hc => hz c (by omega)), hz C (by omega), Int.natCast_add, Int.add_mul]
    simp
/-- Of each round at most one client has a backend. -/
theorem cntG_round {of : Nat → List Int} {ids : List Int} {E i : Nat} (hs : ids.Pairwise (· < ·)) (hi : i < ids.length) (hin : ∀ c, ∀ x ∈ of c, x ∈ ids) (hnd : ∀ c, (of c).Nodup) (R : Nat)
    (hap : ∀ r a b, r < R → a < E → b < E → a ≠ b → ∀ x ∈ of (r * E + a), x ∉ of (r * E + b)) : ∀ r, r ≤ R → (cntG of ids (r * E)).getD i 0 ≤ r
  | 0, _ => by
    rw [Nat.zero_mul]
    simp [cntG, List.getD_eq_getElem?_getD, List.getElem?_replicate, hi]
  | r + 1, h => by
    have ih := cntG_round hs hi hin hnd R hap r (by omega)
    have hstep : ∀ t, t ≤ E → (cntG of ids (r * E + t)).getD i 0 ≤ (r : Int) + (if ∃ s, s < t ∧ ids.getD i 0 ∈ of (r * E + s) then 1 else 0) := by
      intro t
      induction t with
      | zero =>
        intro _
        rw [if_neg (by rintro ⟨s, hs, _⟩; omega)]
        simpa using ih
      | succ t iht =>
        intro ht
        have h1 := iht (by omega)
        show (addL ids (cntG of ids (r * E + t)) (of (r * E + t))).getD i 0 ≤ _
        rw [addL_at hs hi _ _ (hnd _) (hin _) (cntG_len of ids _)]
        by_cases hm : ids.getD i 0 ∈ of (r * E + t)
        · have hno : ¬ ∃ s, s < t ∧ ids.getD i 0 ∈ of (r * E + s) := by
            rintro ⟨s, hs2, hm2⟩
            exact hap r s t (by omega) (by omega) (by omega) (by omega) _ hm2 hm
          rw [if_neg hno] at h1
          rw [if_pos hm, if_pos ⟨t, by omega, hm⟩]; omega
        · rw [if_neg hm]
          by_cases hex : ∃ s, s < t ∧ ids.getD i 0 ∈ of (r * E + s)
          · rw [if_pos hex] at h1
            obtain ⟨s, hs2, hm2⟩ := hex
            rw [if_pos ⟨s, by omega, hm2⟩]; omega
          · rw [if_neg hex] at h1
            have : (0 : Int) ≤ (if ∃ s, s < t + 1 ∧ ids.getD i 0 ∈ of (r * E + s) then 1 else 0) := by split <;> omega
            omega
    have := hstep E (Nat.le_refl _)
    rw [Nat.add_mul, Nat.one_mul]
    split at this <;> omega
end Go.Proofs.Ytpafbjffecpdmaa.Sb
