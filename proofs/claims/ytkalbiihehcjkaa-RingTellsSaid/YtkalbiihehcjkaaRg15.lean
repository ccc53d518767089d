/- Ring: Lookup. -/
import Derived.Test.YtkalbiihehcjkaaRg14
set_option linter.unusedVariables false
namespace Go.Proofs.Ytkalbiihehcjkaa.Rg
open Go.RowKit Go.Proofs.Ytkalbiihehcjkaa
set_option linter.unusedSimpArgs false
def oLook (l : List Pt) (h : Int) : Int := if eAsk l = 0 then lookI l h else 0
theorem eAsk_ok {l : List Pt} (h : eAsk l = 0) : ord l = true ∧ 0 < l.length ∧ l.length ≤ 1024 ∧ Sl.anyOf Pt.neg l = false := by
  unfold eAsk at h
  by_cases h0 : wChk l = 0
  · rw [if_pos h0] at h
    by_cases h1 : l.length = 0
    · rw [if_pos h1] at h; omega
    · unfold wChk at h0
      split at h0
      · omega
      · split at h0
        · rename_i h3 h4; exact ⟨h4.1, by omega, by omega, h4.2⟩
        · omega
  · rw [if_neg h0] at h; exact absurd h h0
set_option maxRecDepth 100000 in
set_option maxHeartbeats 2000000 in
theorem Lookup_c (l : List Pt) (h : Int) (A : Option Addr) (n c : Nat) (w : World) (hr : Sl.Rds w 2 A n (l.flatMap Pt.cs)) :
    Calls Try.prog 15 #[.slice A n c, .int .u64 h] w fun e w' => e = .returned (.tuple #[.int .i64 (oLook l h), .int .i64 (eAsk l)]) ∧ Below w.heap.size w w' := by
  obtain rfl := hr.length Pt.cs_len (by omega)
  have GA := K.H.mk (fun (W : World) (hb : Below w.heap.size w W) => ask_c l A l.length c W (hr.below hb))
  by_cases he : eAsk l = 0
  · obtain ⟨h1, h2, h3, _⟩ := eAsk_ok he
    rw [show oLook l h = lookI l h by unfold oLook; rw [if_pos he], he]
    rw [he] at GA
    have GB := K.H.mk (fun (W : World) (hb : Below w.heap.size w W) => begins_c l h A l.length c W (hr.below hb) h1 h3)
    have GF := K.H.mk (fun (W : World) (hb : Below w.heap.size w W) => first_c l h A l.length c W (hr.below hb) h2 h3)
    generalize lookI l h = r at *
    generalize ahead l h = k at *
    clear hr he h1 h2 h3
    go_enter Try.func15, Try.ntmps15
    go_wp2_with (first | (go_at_call 34; (with_reducible refine (GA.out _ (by repeat (first | (with_reducible exact Below.refl _ _) | (with_reducible refine K.b_bel ?_ (by assumption)) | (with_reducible refine K.b_alloc ?_ _) | (with_reducible refine K.b_drewN ?_ _) | (with_reducible refine K.b_drew ?_) | (with_reducible refine K.b_set ?_ (by first | omega | (simp <;> omega)) _) | (with_reducible refine K.b_only ?_ (by assumption) (by first | omega | (simp <;> omega)))))).mono ?_); rintro e W1 ⟨rfl, hb1⟩; obtain ⟨hB1, hC1, hF1, hZ1⟩ := K.bel_facts hb1; clear hb1) | (go_at_call 35; (with_reducible refine (GB.out _ (by repeat (first | (with_reducible exact Below.refl _ _) | (with_reducible refine K.b_bel ?_ (by assumption)) | (with_reducible refine K.b_alloc ?_ _) | (with_reducible refine K.b_drewN ?_ _) | (with_reducible refine K.b_drew ?_) | (with_reducible refine K.b_set ?_ (by first | omega | (simp <;> omega)) _) | (with_reducible refine K.b_only ?_ (by assumption) (by first | omega | (simp <;> omega)))))).mono ?_); rintro e W2 ⟨rfl, hb2⟩; obtain ⟨hB2, hC2, hF2, hZ2⟩ := K.bel_facts hb2; clear hb2) | (go_at_call 36; (with_reducible refine (GF.out _ (by repeat (first | (with_reducible exact Below.refl _ _) | (with_reducible refine K.b_bel ?_ (by assumption)) | (with_reducible refine K.b_alloc ?_ _) | (with_reducible refine K.b_drewN ?_ _) | (with_reducible refine K.b_drew ?_) | (with_reducible refine K.b_set ?_ (by first | omega | (simp <;> omega)) _) | (with_reducible refine K.b_only ?_ (by assumption) (by first | omega | (simp <;> omega)))))).mono ?_); rintro e W3 ⟨rfl, hb3⟩; obtain ⟨hB3, hC3, hF3, hZ3⟩ := K.bel_facts hb3; clear hb3))
    go_ret2
    exact ⟨rfl, (by repeat (first | (with_reducible exact Below.refl _ _) | (with_reducible refine K.b_bel ?_ (by assumption)) | (with_reducible refine K.b_alloc ?_ _) | (with_reducible refine K.b_drewN ?_ _) | (with_reducible refine K.b_drew ?_) | (with_reducible refine K.b_set ?_ (by first | omega | (simp <;> omega)) _) | (with_reducible refine K.b_only ?_ (by assumption) (by first | omega | (simp <;> omega)))))⟩
  · rw [show oLook l h = 0 by unfold oLook; rw [if_neg he]]
    have hd : (eAsk l != 0) = true := by simpa using he
    generalize eAsk l = y at *
    clear hr he
    go_enter Try.func15, Try.ntmps15
    go_wp2_with (first | (go_at_call 34; (with_reducible refine (GA.out _ (by repeat (first | (with_reducible exact Below.refl _ _) | (with_reducible refine K.b_bel ?_ (by assumption)) | (with_reducible refine K.b_alloc ?_ _) | (with_reducible refine K.b_drewN ?_ _) | (with_reducible refine K.b_drew ?_) | (with_reducible refine K.b_set ?_ (by first | omega | (simp <;> omega)) _) | (with_reducible refine K.b_only ?_ (by assumption) (by first | omega | (simp <;> omega)))))).mono ?_); rintro e W1 ⟨rfl, hb1⟩; obtain ⟨hB1, hC1, hF1, hZ1⟩ := K.bel_facts hb1; clear hb1))
    go_ret2
    exact ⟨rfl, (by repeat (first | (with_reducible exact Below.refl _ _) | (with_reducible refine K.b_bel ?_ (by assumption)) | (with_reducible refine K.b_alloc ?_ _) | (with_reducible refine K.b_drewN ?_ _) | (with_reducible refine K.b_drew ?_) | (with_reducible refine K.b_set ?_ (by first | omega | (simp <;> omega)) _) | (with_reducible refine K.b_only ?_ (by assumption) (by first | omega | (simp <;> omega)))))⟩
end Go.Proofs.Ytkalbiihehcjkaa.Rg
