/- Timer: slices.SortedFunc; Order. -/
import Derived.Test.YtmoaekjkihbicaaTm16
set_option linter.unusedVariables false
namespace Go.Proofs.Ytmoaekjkihbicaa.Tm
open Go.RowKit Go.Proofs.Ytmoaekjkihbicaa
set_option linter.unusedSimpArgs false
theorem sortedF_c (l : List Tm) (B : Nat) (A : Option Addr) (n c : Nat) (w : World) (hB : K.At w B 22 #[.slice A n c]) (hr : Sl.Rds w 2 A n (l.flatMap Tm.cs)) (h64 : l.length ≤ 1024) :
    Calls Try.prog 36 #[.func (.func 49) #[] #[.pointer (some ⟨B, 0, none⟩)], .func (.func 38) #[] #[]] w fun e w' => (∃ A2 c2, e = .returned (.slice A2 l.length c2) ∧ w'.ownsRow w.heap.size 25 2 (.slice A2 l.length c2) l.length ((sortT l).flatMap Tm.cs)) ∧ Below w.heap.size w w' := by
  have GA := K.H.mk (collect_c l B A n c w hB hr h64)
  have GS := K.H.mk (fun (W : World) (v : Value) (h : W.ownsRow w.heap.size 25 2 v l.length (l.flatMap Tm.cs)) => SortTm_c l v l.length w.heap.size W h h64)
  clear hB hr
  go_enter Try.func36, Try.ntmps36
  go_wp2_with (first
    | (go_at_call 47; (with_reducible refine GA.out.mono ?_); rintro e W2 ⟨⟨v2, rfl, hown2⟩, hb2⟩; obtain ⟨A2, c2, rfl, hR2⟩ := Sl.Rds.of_own hown2; have Hown2 := K.H.mk hown2; clear hown2 hR2)
    | (go_at_call 48; (with_reducible refine (GS.out _ _ Hown2.out).mono ?_); rintro e W3 ⟨rfl, hown3, hgr3⟩))
  go_ret
  exact ⟨⟨_, _, rfl, hown3⟩, hb2.grown hgr3 hb2.size (Sl.own_base Hown2.out)⟩
def rOrd (l : List Tm) : Int × List Tm := if eChk l = 0 then (0, sortT l) else (eChk l, [])
set_option maxRecDepth 100000 in
set_option maxHeartbeats 4000000 in
theorem Order_c (l : List Tm) (A : Option Addr) (n c : Nat) (w : World) (hr : Sl.Rds w 2 A n (l.flatMap Tm.cs)) : Calls Try.prog 17 #[.slice A n c] w (TPost w (rOrd l)) := by
  obtain rfl := hr.length Tm.cs_len (by omega)
  have GC := K.H.mk (fun (W : World) (hb : Below w.heap.size w W) => Check_c l A l.length c W (hr.below hb))
  by_cases h : eChk l = 0
  · have hl := (eChk_of h).1
    rw [h] at GC
    rw [show rOrd l = (0, sortT l) by unfold rOrd; rw [if_pos h]]
    have GS := K.H.mk (fun (W : World) (B : Nat) (hb : Below w.heap.size w W) hB => sortedF_c l B A l.length c W hB (hr.below hb) hl)
    have hlen := sortT_len l
    generalize sortT l = S at *
    clear hr h
    go_enter Try.func17, Try.ntmps17
    go_wp2_with (first
      | (go_at_call 16; (with_reducible refine (GC.out _ (by repeat (first | (with_reducible exact Below.refl _ _) | (with_reducible refine K.b_bel ?_ (by assumption)) | (with_reducible refine K.b_alloc ?_ _) | (with_reducible refine K.b_drewN ?_ _) | (with_reducible refine K.b_drew ?_) | (with_reducible refine K.b_set ?_ (by first | omega | (simp <;> omega)) _) | (with_reducible refine K.b_only ?_ (by assumption) (by first | omega | (simp <;> omega)))))).mono ?_); rintro e W1 ⟨rfl, hb1⟩; obtain ⟨hB1, hC1, hF1, hZ1⟩ := K.bel_facts hb1; clear hb1)
      | (go_at_call 37; (with_reducible refine (vals_c _ _ _ _).mono ?_); rintro e w' ⟨rfl, hw'⟩; have hw'2 := Eq.symm hw'; clear hw'; subst hw'2)
      | (go_at_call 36; (with_reducible refine (GS.out _ _ ?r1 ?r2).mono ?_); (case r1 => exact (by repeat (first | (with_reducible exact Below.refl _ _) | (with_reducible refine K.b_bel ?_ (by assumption)) | (with_reducible refine K.b_alloc ?_ _) | (with_reducible refine K.b_drewN ?_ _) | (with_reducible refine K.b_drew ?_) | (with_reducible refine K.b_set ?_ (by first | omega | (simp <;> omega)) _) | (with_reducible refine K.b_only ?_ (by assumption) (by first | omega | (simp <;> omega)))))); (case r2 => exact K.At.new' _ _ _ _ (by simp)); rintro e W2 ⟨⟨A2, c2, rfl, hown2⟩, hb2⟩))
    have hz1 := hB1.out.size
    go_ret2
    have hb0 : Below w.heap.size w (W1.alloc (.cells #[.slice A l.length c] 22)) := (by repeat (first | (with_reducible exact Below.refl _ _) | (with_reducible refine K.b_bel ?_ (by assumption)) | (with_reducible refine K.b_alloc ?_ _) | (with_reducible refine K.b_drewN ?_ _) | (with_reducible refine K.b_drew ?_) | (with_reducible refine K.b_set ?_ (by first | omega | (simp <;> omega)) _) | (with_reducible refine K.b_only ?_ (by assumption) (by first | omega | (simp <;> omega)))))
    exact ⟨_, rfl, by rw [hlen]; exact Sl.own_low hown2 (by simp; omega), hb0.trans (hb2.mono (by simp; omega))⟩
  · have hd : (eChk l != 0) = true := by simpa using h
    rw [show rOrd l = (eChk l, []) by unfold rOrd; rw [if_neg h]]
    generalize eChk l = er at *
    clear hr h
    go_enter Try.func17, Try.ntmps17
    go_wp2_with (first | (go_at_call 16; (with_reducible refine (GC.out _ (by repeat (first | (with_reducible exact Below.refl _ _) | (with_reducible refine K.b_bel ?_ (by assumption)) | (with_reducible refine K.b_alloc ?_ _) | (with_reducible refine K.b_drewN ?_ _) | (with_reducible refine K.b_drew ?_) | (with_reducible refine K.b_set ?_ (by first | omega | (simp <;> omega)) _) | (with_reducible refine K.b_only ?_ (by assumption) (by first | omega | (simp <;> omega)))))).mono ?_); rintro e W1 ⟨rfl, hb1⟩; obtain ⟨hB1, hC1, hF1, hZ1⟩ := K.bel_facts hb1; clear hb1))
    go_ret2
    exact TPost.bad (by repeat (first | (with_reducible exact Below.refl _ _) | (with_reducible refine K.b_bel ?_ (by assumption)) | (with_reducible refine K.b_alloc ?_ _) | (with_reducible refine K.b_drewN ?_ _) | (with_reducible refine K.b_drew ?_) | (with_reducible refine K.b_set ?_ (by first | omega | (simp <;> omega)) _) | (with_reducible refine K.b_only ?_ (by assumption) (by first | omega | (simp <;> omega)))))
end Go.Proofs.Ytmoaekjkihbicaa.Tm
