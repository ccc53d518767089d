/- Ring: ask, begins. -/
import Derived.Test.YtkalbiihehcjkaaRg11
set_option linter.unusedVariables false
namespace Go.Proofs.Ytkalbiihehcjkaa.Rg
open Go.RowKit Go.Proofs.Ytkalbiihehcjkaa
set_option linter.unusedSimpArgs false
def eAsk (l : List Pt) : Int := if wChk l = 0 then (if l.length = 0 then 71 else 0) else wChk l
set_option maxRecDepth 100000 in
set_option maxHeartbeats 2000000 in
theorem ask_c (l : List Pt) (A : Option Addr) (n c : Nat) (w : World) (hr : Sl.Rds w 2 A n (l.flatMap Pt.cs)) :
    Calls Try.prog 34 #[.slice A n c] w fun e w' => e = .returned (.int .i64 (eAsk l)) ∧ Below w.heap.size w w' := by
  have hn := hr.length Pt.cs_len (by omega)
  have GW := K.H.mk (fun (W : World) (hb : Below w.heap.size w W) => Whole_c l A n c W (hr.below hb))
  obtain ⟨T, hT⟩ : ∃ T, T = eAsk l := ⟨_, rfl⟩
  rw [← hT]
  unfold eAsk at hT
  by_cases h0 : wChk l = 0
  · rw [if_pos h0] at hT
    rw [h0] at GW
    by_cases h1 : l.length = 0
    · rw [if_pos h1] at hT
      have d1 : ((n : Int) == 0) = true := by rw [← hn] at *; simp [h1]
      have d1n : (n == 0) = true := by rw [← hn] at *; simp [h1]
      obtain rfl : n = 0 := by omega
      clear hr h0 h1 hn
      subst hT
      go_enter Try.func34, Try.ntmps34
      go_wp2_with (first | (go_at_call 12; (with_reducible refine (GW.out _ (by repeat (first | (with_reducible exact Below.refl _ _) | (with_reducible refine K.b_bel ?_ (by assumption)) | (with_reducible refine K.b_alloc ?_ _) | (with_reducible refine K.b_drewN ?_ _) | (with_reducible refine K.b_drew ?_) | (with_reducible refine K.b_set ?_ (by first | omega | (simp <;> omega)) _) | (with_reducible refine K.b_only ?_ (by assumption) (by first | omega | (simp <;> omega)))))).mono ?_); rintro e W1 ⟨rfl, hb1⟩; obtain ⟨hB1, hC1, hF1, hZ1⟩ := K.bel_facts hb1; clear hb1))
      go_ret
      exact ⟨rfl, (by repeat (first | (with_reducible exact Below.refl _ _) | (with_reducible refine K.b_bel ?_ (by assumption)) | (with_reducible refine K.b_alloc ?_ _) | (with_reducible refine K.b_drewN ?_ _) | (with_reducible refine K.b_drew ?_) | (with_reducible refine K.b_set ?_ (by first | omega | (simp <;> omega)) _) | (with_reducible refine K.b_only ?_ (by assumption) (by first | omega | (simp <;> omega)))))⟩
    · rw [if_neg h1] at hT
      have d1 : ((n : Int) == 0) = false := by have : n ≠ 0 := by omega
                                               simpa using this
      have d1n : (n == 0) = false := by have : n ≠ 0 := by omega
                                        simpa using this
      clear hr h0 h1 hn
      subst hT
      go_enter Try.func34, Try.ntmps34
      go_wp2_with (first | (go_at_call 12; (with_reducible refine (GW.out _ (by repeat (first | (with_reducible exact Below.refl _ _) | (with_reducible refine K.b_bel ?_ (by assumption)) | (with_reducible refine K.b_alloc ?_ _) | (with_reducible refine K.b_drewN ?_ _) | (with_reducible refine K.b_drew ?_) | (with_reducible refine K.b_set ?_ (by first | omega | (simp <;> omega)) _) | (with_reducible refine K.b_only ?_ (by assumption) (by first | omega | (simp <;> omega)))))).mono ?_); rintro e W1 ⟨rfl, hb1⟩; obtain ⟨hB1, hC1, hF1, hZ1⟩ := K.bel_facts hb1; clear hb1))
      go_ret
      exact ⟨rfl, (by repeat (first | (with_reducible exact Below.refl _ _) | (with_reducible refine K.b_bel ?_ (by assumption)) | (with_reducible refine K.b_alloc ?_ _) | (with_reducible refine K.b_drewN ?_ _) | (with_reducible refine K.b_drew ?_) | (with_reducible refine K.b_set ?_ (by first | omega | (simp <;> omega)) _) | (with_reducible refine K.b_only ?_ (by assumption) (by first | omega | (simp <;> omega)))))⟩
  · rw [if_neg h0] at hT
    have hd : (wChk l != 0) = true := by simpa using h0
    rw [← hT] at GW hd
    clear hr h0 hn hT
    go_enter Try.func34, Try.ntmps34
    go_wp2_with (first | (go_at_call 12; (with_reducible refine (GW.out _ (by repeat (first | (with_reducible exact Below.refl _ _) | (with_reducible refine K.b_bel ?_ (by assumption)) | (with_reducible refine K.b_alloc ?_ _) | (with_reducible refine K.b_drewN ?_ _) | (with_reducible refine K.b_drew ?_) | (with_reducible refine K.b_set ?_ (by first | omega | (simp <;> omega)) _) | (with_reducible refine K.b_only ?_ (by assumption) (by first | omega | (simp <;> omega)))))).mono ?_); rintro e W1 ⟨rfl, hb1⟩; obtain ⟨hB1, hC1, hF1, hZ1⟩ := K.bel_facts hb1; clear hb1))
    go_ret
    exact ⟨rfl, (by repeat (first | (with_reducible exact Below.refl _ _) | (with_reducible refine K.b_bel ?_ (by assumption)) | (with_reducible refine K.b_alloc ?_ _) | (with_reducible refine K.b_drewN ?_ _) | (with_reducible refine K.b_drew ?_) | (with_reducible refine K.b_set ?_ (by first | omega | (simp <;> omega)) _) | (with_reducible refine K.b_only ?_ (by assumption) (by first | omega | (simp <;> omega)))))⟩
end Go.Proofs.Ytkalbiihehcjkaa.Rg
