/- Ring: Whole: the library's and the reference's. -/
import Derived.Test.YtkalbiihehcjkaaRg7
set_option linter.unusedVariables false
namespace Go.Proofs.Ytkalbiihehcjkaa.Rg
open Go.RowKit Go.Proofs.Ytkalbiihehcjkaa
set_option linter.unusedSimpArgs false
theorem wChk_3 {r : List Pt} (h : 1024 < r.length) : wChk r = 3 := by unfold wChk; rw [if_pos h]
theorem wChk_0 {r : List Pt} (h : ¬ 1024 < r.length) (h1 : ord r = true) (h2 : Sl.anyOf Pt.neg r = false) : wChk r = 0 := by unfold wChk; rw [if_neg h, if_pos ⟨h1, h2⟩]
theorem wChk_9 {r : List Pt} (h : ¬ 1024 < r.length) (h1 : ord r = false ∨ Sl.anyOf Pt.neg r = true) : wChk r = 9 := by
  unfold wChk; rw [if_neg h, if_neg]
  rintro ⟨h2, h3⟩
  rcases h1 with h1 | h1
  · rw [h2] at h1; cases h1
  · rw [h3] at h1; cases h1
set_option maxRecDepth 100000 in
set_option maxHeartbeats 4000000 in
theorem Whole_c (l : List Pt) (A : Option Addr) (n c : Nat) (w : World) (hr : Sl.Rds w 2 A n (l.flatMap Pt.cs)) :
    Calls Try.prog 12 #[.slice A n c] w fun e w' => e = .returned (.int .i64 (wChk l)) ∧ Below w.heap.size w w' := by
  obtain rfl := hr.length Pt.cs_len (by omega)
  have GS := K.H.mk (fun (W : World) (hb : Below w.heap.size w W) => IsSorted_c l A l.length c W (hr.below hb))
  have GN := K.H.mk (fun (W : World) (hb : Below w.heap.size w W) => anyNeg_c l A l.length c W (hr.below hb))
  by_cases hl : 1024 < l.length
  · rw [wChk_3 hl]
    have d1 : decide ((1024 : Int) < (l.length : Int)) = true := decide_eq_true (by omega)
    have d2 : decide (1024 < l.length) = true := decide_eq_true hl
    clear hl hr
    go_enter Try.func12, Try.ntmps12
    go_wp2
    go_ret
    exact ⟨rfl, (by repeat (first | (with_reducible exact Below.refl _ _) | (with_reducible refine K.b_bel ?_ (by assumption)) | (with_reducible refine K.b_alloc ?_ _) | (with_reducible refine K.b_drewN ?_ _) | (with_reducible refine K.b_drew ?_) | (with_reducible refine K.b_set ?_ (by first | omega | (simp <;> omega)) _) | (with_reducible refine K.b_only ?_ (by assumption) (by first | omega | (simp <;> omega)))))⟩
  · have d1 : decide ((1024 : Int) < (l.length : Int)) = false := decide_eq_false (by omega)
    have d2 : decide (1024 < l.length) = false := decide_eq_false hl
    cases ho : ord l <;> cases hn : Sl.anyOf Pt.neg l
    case true.false =>
      rw [wChk_0 hl ho hn]
      rw [ho] at GS
      rw [hn] at GN
      clear hl hr ho hn
      go_enter Try.func12, Try.ntmps12
      go_wp2_with (first | (go_at_call 30; (with_reducible refine (GS.out _ (by repeat (first | (with_reducible exact Below.refl _ _) | (with_reducible refine K.b_bel ?_ (by assumption)) | (with_reducible refine K.b_alloc ?_ _) | (with_reducible refine K.b_drewN ?_ _) | (with_reducible refine K.b_drew ?_) | (with_reducible refine K.b_set ?_ (by first | omega | (simp <;> omega)) _) | (with_reducible refine K.b_only ?_ (by assumption) (by first | omega | (simp <;> omega)))))).mono ?_); rintro e W1 ⟨rfl, hb1⟩; obtain ⟨hB1, hC1, hF1, hZ1⟩ := K.bel_facts hb1; clear hb1) | (go_at_call 31; (with_reducible refine (GN.out _ (by repeat (first | (with_reducible exact Below.refl _ _) | (with_reducible refine K.b_bel ?_ (by assumption)) | (with_reducible refine K.b_alloc ?_ _) | (with_reducible refine K.b_drewN ?_ _) | (with_reducible refine K.b_drew ?_) | (with_reducible refine K.b_set ?_ (by first | omega | (simp <;> omega)) _) | (with_reducible refine K.b_only ?_ (by assumption) (by first | omega | (simp <;> omega)))))).mono ?_); rintro e W2 ⟨rfl, hb2⟩; obtain ⟨hB2, hC2, hF2, hZ2⟩ := K.bel_facts hb2; clear hb2))
      go_ret
      exact ⟨rfl, (by repeat (first | (with_reducible exact Below.refl _ _) | (with_reducible refine K.b_bel ?_ (by assumption)) | (with_reducible refine K.b_alloc ?_ _) | (with_reducible refine K.b_drewN ?_ _) | (with_reducible refine K.b_drew ?_) | (with_reducible refine K.b_set ?_ (by first | omega | (simp <;> omega)) _) | (with_reducible refine K.b_only ?_ (by assumption) (by first | omega | (simp <;> omega)))))⟩
    all_goals
      rw [wChk_9 hl (by rw [ho, hn]; simp)]
      rw [ho] at GS
      rw [hn] at GN
      clear hl hr ho hn
      go_enter Try.func12, Try.ntmps12
      go_wp2_with (first | (go_at_call 30; (with_reducible refine (GS.out _ (by repeat (first | (with_reducible exact Below.refl _ _) | (with_reducible refine K.b_bel ?_ (by assumption)) | (with_reducible refine K.b_alloc ?_ _) | (with_reducible refine K.b_drewN ?_ _) | (with_reducible refine K.b_drew ?_) | (with_reducible refine K.b_set ?_ (by first | omega | (simp <;> omega)) _) | (with_reducible refine K.b_only ?_ (by assumption) (by first | omega | (simp <;> omega)))))).mono ?_); rintro e W1 ⟨rfl, hb1⟩; obtain ⟨hB1, hC1, hF1, hZ1⟩ := K.bel_facts hb1; clear hb1) | (go_at_call 31; (with_reducible refine (GN.out _ (by repeat (first | (with_reducible exact Below.refl _ _) | (with_reducible refine K.b_bel ?_ (by assumption)) | (with_reducible refine K.b_alloc ?_ _) | (with_reducible refine K.b_drewN ?_ _) | (with_reducible refine K.b_drew ?_) | (with_reducible refine K.b_set ?_ (by first | omega | (simp <;> omega)) _) | (with_reducible refine K.b_only ?_ (by assumption) (by first | omega | (simp <;> omega)))))).mono ?_); rintro e W2 ⟨rfl, hb2⟩; obtain ⟨hB2, hC2, hF2, hZ2⟩ := K.bel_facts hb2; clear hb2))
      go_ret
      exact ⟨rfl, (by repeat (first | (with_reducible exact Below.refl _ _) | (with_reducible refine K.b_bel ?_ (by assumption)) | (with_reducible refine K.b_alloc ?_ _) | (with_reducible refine K.b_drewN ?_ _) | (with_reducible refine K.b_drew ?_) | (with_reducible refine K.b_set ?_ (by first | omega | (simp <;> omega)) _) | (with_reducible refine K.b_only ?_ (by assumption) (by first | omega | (simp <;> omega)))))⟩
end Go.Proofs.Ytkalbiihehcjkaa.Rg
