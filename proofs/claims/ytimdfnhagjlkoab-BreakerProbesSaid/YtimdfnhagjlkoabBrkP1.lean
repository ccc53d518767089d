/- BreakerProbes: no more probes are out than settings say. -/
import Derived.Test.YtimdfnhagjlkoabBrkG1
import Derived.Test.YtimdfnhagjlkoabBrkL2
namespace Go.Proofs.Ytimdfnhagjlkoab.Brk
open Go.RowKit Go.Proofs.Ytimdfnhagjlkoab
attribute [local go_sem] K.max2_int K.min2_int K.max_two K.min_two K.max_three K.min_three
set_option linter.unusedVariables false
set_option linter.unusedSimpArgs false
/-- Acts that may be: k of them, their ticks rising, none above k / 2. -/
def Fit (k : Nat) (ys : List Act) : Prop := ys.length = k ∧ srt ys = true ∧ ∀ y ∈ ys, 1 ≤ y.what ∧ y.what ≤ 3 ∧ 0 ≤ y.tick ∧ y.tick ≤ (k : Int) / 2
theorem fit_snoc {k : Nat} {ys : List Act} {y : Act} (h : Fit k ys) (h1 : 1 ≤ y.what) (h2 : y.what ≤ 3) (h3 : y.tick = (k : Int) / 2) : Fit (k + 1) (ys ++ [y]) := by
  obtain ⟨a, b, c⟩ := h
  refine ⟨by simp [a], ?_, ?_⟩
  · rw [srt_iff] at *
    intro j x z hx hz
    by_cases hj : j + 1 < ys.length
    · rw [List.getElem?_append_left (by omega)] at hx
      rw [List.getElem?_append_left hj] at hz
      exact b j x z hx hz
    · have hl := (List.getElem?_eq_some_iff.1 hz).1
      simp at hl
      have hjl : j + 1 = ys.length := by omega
      rw [List.getElem?_append_left (by omega)] at hx
      rw [List.getElem?_append_right (by omega), hjl, Nat.sub_self] at hz
      simp at hz
      subst hz
      have := c x (List.mem_of_getElem? hx)
      omega
  · intro z hz
    rcases List.mem_append.1 hz with hz | hz
    · have := c z hz
      push_cast
      omega
    · simp at hz
      subst hz
      push_cast
      omega
theorem fit_eRun {s : S} {k : Nat} {ys : List Act} (h : Fit k ys) (hk : k ≤ 200) : eRun s ys = if sets s then 0 else 4 := by
  obtain ⟨a, b, c⟩ := h
  have k1 : Sl.anyOf badKind ys = false := by
    unfold Sl.anyOf; rw [List.any_eq_false]
    intro y hy
    have := c y hy
    simp [badKind, inB]; omega
  have k2 : Sl.anyOf badTick ys = false := by
    unfold Sl.anyOf; rw [List.any_eq_false]
    intro y hy
    have := c y hy
    simp [badTick, inB]; omega
  cases hs : sets s
  · exact eRun_4 k1 (by omega) (.inl hs)
  · exact eRun_z k1 (by omega) hs k2 b
theorem fit_tick {k : Nat} {ys : List Act} (h : Fit k ys) (hk : k ≤ 201) : ∀ y ∈ ys, 0 ≤ y.tick ∧ y.tick ≤ 536870912 := fun y hy => by
  have := h.2.2 y hy
  omega
theorem act_p1 {b : B} {s : S} {x : Act} (h : x.what = 1) : (act b s x).1.probes = b.probes := by
  rw [act_1 h]; unfold on; split <;> rfl
theorem act_p2 {b : B} {s : S} {x : Act} (h : x.what = 2) : ((act b s x).2 = 1 → (act b s x).1.probes = b.probes + 1) ∧ ((act b s x).2 ≠ 1 → (act b s x).1.probes = b.probes) := by
  cases ha : allows b s
  · rw [act_no (by omega) (by omega) ha]; simp
  · by_cases hm : b.mode = 2
    · rw [act_half (by omega) (by omega) ha hm]; simp
    · rw [act_shut (by omega) (by omega) ha hm]; simp
theorem act_p3 {b : B} {s : S} {x : Act} (h : x.what = 3) (h0 : 0 ≤ b.probes) (hp : x.probe = true → 0 < b.probes) : (act b s x).1.probes = if x.probe then b.probes - 1 else b.probes := by
  rw [act_3 (by omega) h]
  unfold ends fails wins trip K.mx
  cases hpp : x.probe
  · cases x.good <;> simp <;> (repeat' split) <;> rfl
  · have := hp hpp
    cases x.good <;> simp <;> (repeat' split) <;> (first | rfl | (simp; omega) | omega)
end Go.Proofs.Ytimdfnhagjlkoab.Brk
