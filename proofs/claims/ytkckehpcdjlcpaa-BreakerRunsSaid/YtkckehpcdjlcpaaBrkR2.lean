/- Acts, one by one: what an act makes of a breaker, and Run. -/
import Derived.Test.YtkckehpcdjlcpaaBrkR1
namespace Go.Proofs.Ytkckehpcdjlcpaa.Brk
open Go.RowKit Go.Proofs.Ytkckehpcdjlcpaa
attribute [local go_sem] K.max2_int K.min2_int K.max_two K.min_two K.max_three K.min_three
set_option linter.unusedVariables false
set_option linter.unusedSimpArgs false
def act (b : B) (s : S) (x : Act) : B × Int :=
  if x.what = 1 then (on b x.tick, 0)
  else if x.what = 3 then (ends b s x.tick x.probe x.good, 0)
  else if allows b s then (if b.mode = 2 then ({ b with probes := b.probes + 1 }, 1) else (b, 0))
  else (b, 2)
/-- What holds of a breaker that acts have made of a closed one. -/
def inv (b : B) (s : S) : Prop := (0 ≤ b.mode ∧ b.mode ≤ 2) ∧ (0 ≤ b.til ∧ b.til ≤ 1073741824) ∧ (0 ≤ b.fails ∧ b.fails < s.fails) ∧ (0 ≤ b.probes ∧ b.probes ≤ s.probes) ∧ (0 ≤ b.wins ∧ b.wins < s.probes)
theorem inv_state {b : B} {s : S} (hs : sets s = true) (h : inv b s) : state b = true := by
  rw [sets_iff] at hs
  unfold inv at h
  rw [state_iff]; omega
theorem inv_zero {s : S} (hs : sets s = true) : inv zero s := by
  rw [sets_iff] at hs
  unfold inv zero; simp only; omega
theorem inv_act {b : B} {s : S} {x : Act} (hs : sets s = true) (ht : 0 ≤ x.tick ∧ x.tick ≤ 536870912) (h : inv b s) : inv (act b s x).1 s := by
  rw [sets_iff] at hs
  unfold inv at *
  unfold act
  split
  · unfold on; split
    · simp only; omega
    · exact h
  · split
    · unfold ends fails wins trip K.mx
      cases x.probe <;> cases x.good <;> simp only [Bool.false_eq_true, if_false, if_true]
      all_goals (repeat' split)
      all_goals (first | omega | (simp only; omega))
    · split
      · rename_i ha
        split
        · rename_i hm
          have : b.probes < s.probes := by unfold allows at ha; simp [hm] at ha; exact ha
          simp only; omega
        · exact h
      · exact h
theorem act_1 {b : B} {s : S} {x : Act} (h : x.what = 1) : act b s x = (on b x.tick, 0) := by simp [act, h]
theorem act_3 {b : B} {s : S} {x : Act} (h1 : ¬ x.what = 1) (h : x.what = 3) : act b s x = (ends b s x.tick x.probe x.good, 0) := by simp [act, h]
theorem act_no {b : B} {s : S} {x : Act} (h1 : ¬ x.what = 1) (h : ¬ x.what = 3) (h2 : allows b s = false) : act b s x = (b, 2) := by simp [act, h, h1, h2]
theorem act_half {b : B} {s : S} {x : Act} (h1 : ¬ x.what = 1) (h : ¬ x.what = 3) (h2 : allows b s = true) (h3 : b.mode = 2) : act b s x = ({ b with probes := b.probes + 1 }, 1) := by simp [act, h, h1, h2, h3]
theorem act_shut {b : B} {s : S} {x : Act} (h1 : ¬ x.what = 1) (h : ¬ x.what = 3) (h2 : allows b s = true) (h3 : ¬ b.mode = 2) : act b s x = (b, 0) := by simp [act, h, h1, h2, h3]
set_option maxHeartbeats 1000000 in
theorem act_c (b : B) (s : S) (t : Int) (x : Act) (g : Nat) (w : World) (hs : sets s = true) (ht : 0 ≤ x.tick ∧ x.tick ≤ 536870912) (hv : inv b s) (h : K.At w g 54 (mach b s t)) :
    Calls Try.prog 31 #[.pointer (some ⟨g, 0, none⟩), x.a] w fun e w' =>
    e = .returned (.int .i64 (act b s x).2) ∧ K.At w' g 54 (mach (act b s x).1 s x.tick) ∧ w.grownBy w' (some g) := by
  have hsi := (sets_iff s).1 hs
  have hvi := hv
  unfold inv at hvi
  have Hz := K.H.mk (show wrap64 (x.tick + s.opn) = x.tick + s.opn from by unfold wrap64; omega)
  have Hst := K.H.mk (inv_state hs hv)
  obtain ⟨⟨m0, m1⟩, ⟨u0, u1⟩, ⟨f0, f1⟩, ⟨p0, p1⟩, ⟨v0, v1⟩⟩ := hvi
  obtain ⟨⟨sf0, sf1⟩, ⟨so0, so1⟩, ⟨sp0, sp1⟩⟩ := hsi
  obtain ⟨hc0, hf0, hl0⟩ := K.At.facts h
  have hng : w.heap.size ≠ g := by have := h.lt; omega
  have hgn : g ≠ w.heap.size := by have := h.lt; omega
  have hgl : g < w.heap.size + 1 := by have := h.lt; omega
  clear hs hv ht
  go_enter Try.func31, Try.ntmps31
  go_wp2_with (first | (go_at_call 20; (with_reducible refine (on_c b s x.tick g _ (by refine K.At.cast (by repeat (first | (with_reducible exact h) | (with_reducible apply K.At.set) | (with_reducible apply K.At.alloc) | (with_reducible apply K.At.drewN) | (with_reducible apply K.At.drew) | (with_reducible apply K.At.far) | omega | (simp <;> omega))) ?_; (first | (simp [mach, *]; done) | (simp only [mach]; (repeat' split) <;> (first | rfl | (exfalso; omega) | (simp_all; done) | (simp_all; omega)))))).mono ?_); rintro e W1 ⟨rfl, hA1, ho1⟩; have hO1 := K.Only.mk ho1; clear ho1; obtain ⟨hC1, hF1, hZ1⟩ := K.only_facts hO1; obtain ⟨hc1, hf1, hl1⟩ := K.At.facts hA1) | (go_at_call 22; (with_reducible refine (ends_c b s x.tick x.probe x.good g _ Hz.out Hst.out (by refine K.At.cast (by repeat (first | (with_reducible exact h) | (with_reducible apply K.At.set) | (with_reducible apply K.At.alloc) | (with_reducible apply K.At.drewN) | (with_reducible apply K.At.drew) | (with_reducible apply K.At.far) | omega | (simp <;> omega))) ?_; (first | (simp [mach, *]; done) | (simp only [mach]; (repeat' split) <;> (first | rfl | (exfalso; omega) | (simp_all; done) | (simp_all; omega)))))).mono ?_); rintro e W2 ⟨rfl, hA2, ho2⟩; have hO2 := K.Only.mk ho2; clear ho2; obtain ⟨hC2, hF2, hZ2⟩ := K.only_facts hO2; obtain ⟨hc2, hf2, hl2⟩ := K.At.facts hA2) | (go_at_call 21; (with_reducible refine (allows_c b s x.tick g _ (by refine K.At.cast (by repeat (first | (with_reducible exact h) | (with_reducible apply K.At.set) | (with_reducible apply K.At.alloc) | (with_reducible apply K.At.drewN) | (with_reducible apply K.At.drew) | (with_reducible apply K.At.far) | omega | (simp <;> omega))) ?_; (first | (simp [mach, *]; done) | (simp only [mach]; (repeat' split) <;> (first | rfl | (exfalso; omega) | (simp_all; done) | (simp_all; omega)))))).mono ?_); rintro e W3 ⟨rfl, hb3⟩; obtain ⟨hB3, hC3, hF3, hZ3⟩ := K.bel_facts hb3; clear hb3))
  all_goals go_ret
  · have e := act_1 (b := b) (s := s) (x := x) (by first | assumption | exact Bool.eq_false_iff.2 (by assumption) | exact K.not_t (by assumption) | exact K.not_f (by assumption) | exact beq_iff_eq.1 (by assumption) | exact beq_eq_false_iff_ne.1 (by assumption) | (exact of_decide_eq_true (by assumption)) | (exact of_decide_eq_false (by assumption)) | omega)
    rw [e]
    exact ⟨rfl, hA1, (by repeat (first | (with_reducible exact K.o_refl _ _) | (with_reducible refine K.o_only ?_ (by assumption)) | (with_reducible refine K.o_bel ?_ (by assumption)) | (with_reducible refine K.o_alloc ?_ _) | (with_reducible refine K.o_drewN ?_ _) | (with_reducible refine K.o_drew ?_) | (with_reducible refine K.o_set ?_ _ _)))⟩
  · have e := act_3 (b := b) (s := s) (x := x) (by first | assumption | exact Bool.eq_false_iff.2 (by assumption) | exact K.not_t (by assumption) | exact K.not_f (by assumption) | exact beq_iff_eq.1 (by assumption) | exact beq_eq_false_iff_ne.1 (by assumption) | (exact of_decide_eq_true (by assumption)) | (exact of_decide_eq_false (by assumption)) | omega) (by first | assumption | exact Bool.eq_false_iff.2 (by assumption) | exact K.not_t (by assumption) | exact K.not_f (by assumption) | exact beq_iff_eq.1 (by assumption) | exact beq_eq_false_iff_ne.1 (by assumption) | (exact of_decide_eq_true (by assumption)) | (exact of_decide_eq_false (by assumption)) | omega)
    rw [e]
    exact ⟨rfl, hA2, (by repeat (first | (with_reducible exact K.o_refl _ _) | (with_reducible refine K.o_only ?_ (by assumption)) | (with_reducible refine K.o_bel ?_ (by assumption)) | (with_reducible refine K.o_alloc ?_ _) | (with_reducible refine K.o_drewN ?_ _) | (with_reducible refine K.o_drew ?_) | (with_reducible refine K.o_set ?_ _ _)))⟩
  · have e := act_no (b := b) (s := s) (x := x) (by first | assumption | exact Bool.eq_false_iff.2 (by assumption) | exact K.not_t (by assumption) | exact K.not_f (by assumption) | exact beq_iff_eq.1 (by assumption) | exact beq_eq_false_iff_ne.1 (by assumption) | (exact of_decide_eq_true (by assumption)) | (exact of_decide_eq_false (by assumption)) | omega) (by first | assumption | exact Bool.eq_false_iff.2 (by assumption) | exact K.not_t (by assumption) | exact K.not_f (by assumption) | exact beq_iff_eq.1 (by assumption) | exact beq_eq_false_iff_ne.1 (by assumption) | (exact of_decide_eq_true (by assumption)) | (exact of_decide_eq_false (by assumption)) | omega) (by first | assumption | exact Bool.eq_false_iff.2 (by assumption) | exact K.not_t (by assumption) | exact K.not_f (by assumption) | exact beq_iff_eq.1 (by assumption) | exact beq_eq_false_iff_ne.1 (by assumption) | (exact of_decide_eq_true (by assumption)) | (exact of_decide_eq_false (by assumption)) | omega)
    rw [e]
    exact ⟨rfl, (by refine K.At.cast (by repeat (first | (with_reducible exact h) | (with_reducible refine K.At.new' _ _ _ _ (by first | rfl | (simp; done) | omega)) | (with_reducible apply K.At.over hB3) | (with_reducible apply K.At.set) | (with_reducible apply K.At.alloc) | (with_reducible apply K.At.drewN) | (with_reducible apply K.At.drew) | (with_reducible apply K.At.far) | omega | (simp <;> omega))) ?_; (first | (simp [mach, *]; done) | (simp only [mach]; (repeat' split) <;> (first | rfl | (exfalso; omega) | (simp_all; done) | (simp_all; omega))))), (by repeat (first | (with_reducible exact K.o_refl _ _) | (with_reducible refine K.o_only ?_ (by assumption)) | (with_reducible refine K.o_bel ?_ (by assumption)) | (with_reducible refine K.o_alloc ?_ _) | (with_reducible refine K.o_drewN ?_ _) | (with_reducible refine K.o_drew ?_) | (with_reducible refine K.o_set ?_ _ _)))⟩
  · have e := act_half (b := b) (s := s) (x := x) (by first | assumption | exact Bool.eq_false_iff.2 (by assumption) | exact K.not_t (by assumption) | exact K.not_f (by assumption) | exact beq_iff_eq.1 (by assumption) | exact beq_eq_false_iff_ne.1 (by assumption) | (exact of_decide_eq_true (by assumption)) | (exact of_decide_eq_false (by assumption)) | omega) (by first | assumption | exact Bool.eq_false_iff.2 (by assumption) | exact K.not_t (by assumption) | exact K.not_f (by assumption) | exact beq_iff_eq.1 (by assumption) | exact beq_eq_false_iff_ne.1 (by assumption) | (exact of_decide_eq_true (by assumption)) | (exact of_decide_eq_false (by assumption)) | omega) (by first | assumption | exact Bool.eq_false_iff.2 (by assumption) | exact K.not_t (by assumption) | exact K.not_f (by assumption) | exact beq_iff_eq.1 (by assumption) | exact beq_eq_false_iff_ne.1 (by assumption) | (exact of_decide_eq_true (by assumption)) | (exact of_decide_eq_false (by assumption)) | omega) (by first | assumption | exact Bool.eq_false_iff.2 (by assumption) | exact K.not_t (by assumption) | exact K.not_f (by assumption) | exact beq_iff_eq.1 (by assumption) | exact beq_eq_false_iff_ne.1 (by assumption) | (exact of_decide_eq_true (by assumption)) | (exact of_decide_eq_false (by assumption)) | omega)
    rw [e]
    exact ⟨rfl, (by refine K.At.cast (by repeat (first | (with_reducible exact h) | (with_reducible refine K.At.new' _ _ _ _ (by first | rfl | (simp; done) | omega)) | (with_reducible apply K.At.over hB3) | (with_reducible apply K.At.set) | (with_reducible apply K.At.alloc) | (with_reducible apply K.At.drewN) | (with_reducible apply K.At.drew) | (with_reducible apply K.At.far) | omega | (simp <;> omega))) ?_; (first | (simp [mach, *]; done) | (simp only [mach]; (repeat' split) <;> (first | rfl | (exfalso; omega) | (simp_all; done) | (simp_all; omega))))), (by repeat (first | (with_reducible exact K.o_refl _ _) | (with_reducible refine K.o_only ?_ (by assumption)) | (with_reducible refine K.o_bel ?_ (by assumption)) | (with_reducible refine K.o_alloc ?_ _) | (with_reducible refine K.o_drewN ?_ _) | (with_reducible refine K.o_drew ?_) | (with_reducible refine K.o_set ?_ _ _)))⟩
  · have e := act_shut (b := b) (s := s) (x := x) (by first | assumption | exact Bool.eq_false_iff.2 (by assumption) | exact K.not_t (by assumption) | exact K.not_f (by assumption) | exact beq_iff_eq.1 (by assumption) | exact beq_eq_false_iff_ne.1 (by assumption) | (exact of_decide_eq_true (by assumption)) | (exact of_decide_eq_false (by assumption)) | omega) (by first | assumption | exact Bool.eq_false_iff.2 (by assumption) | exact K.not_t (by assumption) | exact K.not_f (by assumption) | exact beq_iff_eq.1 (by assumption) | exact beq_eq_false_iff_ne.1 (by assumption) | (exact of_decide_eq_true (by assumption)) | (exact of_decide_eq_false (by assumption)) | omega) (by first | assumption | exact Bool.eq_false_iff.2 (by assumption) | exact K.not_t (by assumption) | exact K.not_f (by assumption) | exact beq_iff_eq.1 (by assumption) | exact beq_eq_false_iff_ne.1 (by assumption) | (exact of_decide_eq_true (by assumption)) | (exact of_decide_eq_false (by assumption)) | omega) (by first | assumption | exact Bool.eq_false_iff.2 (by assumption) | exact K.not_t (by assumption) | exact K.not_f (by assumption) | exact beq_iff_eq.1 (by assumption) | exact beq_eq_false_iff_ne.1 (by assumption) | (exact of_decide_eq_true (by assumption)) | (exact of_decide_eq_false (by assumption)) | omega)
    rw [e]
    exact ⟨rfl, (by refine K.At.cast (by repeat (first | (with_reducible exact h) | (with_reducible refine K.At.new' _ _ _ _ (by first | rfl | (simp; done) | omega)) | (with_reducible apply K.At.over hB3) | (with_reducible apply K.At.set) | (with_reducible apply K.At.alloc) | (with_reducible apply K.At.drewN) | (with_reducible apply K.At.drew) | (with_reducible apply K.At.far) | omega | (simp <;> omega))) ?_; (first | (simp [mach, *]; done) | (simp only [mach]; (repeat' split) <;> (first | rfl | (exfalso; omega) | (simp_all; done) | (simp_all; omega))))), (by repeat (first | (with_reducible exact K.o_refl _ _) | (with_reducible refine K.o_only ?_ (by assumption)) | (with_reducible refine K.o_bel ?_ (by assumption)) | (with_reducible refine K.o_alloc ?_ _) | (with_reducible refine K.o_drewN ?_ _) | (with_reducible refine K.o_drew ?_) | (with_reducible refine K.o_set ?_ _ _)))⟩
end Go.Proofs.Ytkckehpcdjlcpaa.Brk
