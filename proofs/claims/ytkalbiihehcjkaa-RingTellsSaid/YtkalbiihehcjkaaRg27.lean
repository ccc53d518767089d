/- Ring: RingOwn: the walk. -/
import Derived.Test.YtkalbiihehcjkaaRg25
import Derived.Test.YtkalbiihehcjkaaRg26
import Derived.Test.YtkalbiihehcjkaaRg22
set_option linter.unusedVariables false
namespace Go.Proofs.Ytkalbiihehcjkaa.Rg
open Go.RowKit Go.Proofs.Ytkalbiihehcjkaa
set_option linter.unusedSimpArgs false
theorem rds_alloc {w : World} {sz n : Nat} {A : Option Addr} {cs : List Value} (h : Sl.Rds w sz A n cs) (o : Obj) : Sl.Rds (w.alloc o) sz A n cs := h.below (K.b_alloc (Below.refl _ _) o)
theorem rBuild_c (l : List Bk) (p : Int) (A : Option Addr) (n c : Nat) (w : World) (hr : Sl.Rds w 2 A n (l.flatMap Bk.cs)) :
    Calls Try.prog 13 #[.int .i64 p, .slice A n c] w (BPost w (oBuild p l) (eBuild p l)) := by
  by_cases h : eChk l = 0
  · by_cases h2 : p < 1 ∨ 64 < p
    · have he : eBuild p l = 4 := by unfold eBuild; rw [if_pos h, if_pos h2]
      have ho : oBuild p l = [] := by unfold oBuild; rw [if_neg (by omega)]
      rw [he, ho]; exact rbuild_range l p A n c w hr h h2
    · exact rBuild_ok l p A n c w hr h (by omega) (by omega)
  · have he : eBuild p l = eChk l := by unfold eBuild; rw [if_neg h]
    have ho : oBuild p l = [] := by unfold oBuild; rw [if_neg (by omega)]
    rw [he, ho]; exact rbuild_bad l p A n c w hr h
set_option maxRecDepth 100000 in
set_option maxHeartbeats 8000000 in
theorem Own_c (p : Int) (l : List Bk) (A : Option Addr) (n c : Nat) (w : World) (hr : Sl.Rds w 2 A n (l.flatMap Bk.cs)) :
    Calls Try.prog 4 #[.int .i64 p, .slice A n c] w fun e w' => e = .returned (.bool true) ∧ Below w.heap.size w w' := by
  have GB := K.H.mk (fun (W : World) (hb : Below w.heap.size w W) => Build_c l p A n c W (hr.below hb))
  have GR := K.H.mk (fun (W : World) (hb : Below w.heap.size w W) => rBuild_c l p A n c W (hr.below hb))
  have GL := K.H.mk (fun (W : World) => alive_c W)
  have hLl : (oBuild p l).length ≤ 1024 := by
    by_cases h : eBuild p l = 0
    · rw [len_build h]; exact (eBuild_0 h).2.2.2.1
    · rw [oBuild_nil h]; simp
  generalize oBuild p l = L at *
  generalize eBuild p l = er at *
  have de : (er == er) = true := by simp
  have dL : decide (L = L) = true := by simp
  have GS := K.H.mk (fun (W : World) (B C : Option Addr) (d e : Nat) (h1 : Sl.Rds W 2 B L.length (L.flatMap Pt.cs)) (h2 : Sl.Rds W 2 C L.length (L.flatMap Pt.cs)) => samePt_c L L B C L.length L.length d e W h1 h2)
  rw [dL] at GS
  clear hr dL
  go_enter Try.func4, Try.ntmps4
  go_wp2_with (first
    | (go_at_call 9; (with_reducible refine (GL.out _).mono ?_); rintro e W1 ⟨rfl, hb1⟩; obtain ⟨hB1, hC1, hF1, hZ1⟩ := K.bel_facts hb1; clear hb1)
    | (go_at_call 10; have hx9 := hown2; clear hx9; (with_reducible refine (GB.out _ (by repeat (first | (with_reducible exact Below.refl _ _) | (with_reducible refine K.b_bel ?_ (by assumption)) | (with_reducible refine K.b_alloc ?_ _) | (with_reducible refine K.b_drewN ?_ _) | (with_reducible refine K.b_drew ?_) | (with_reducible refine K.b_set ?_ (by first | omega | (simp <;> omega)) _) | (with_reducible refine K.b_only ?_ (by assumption) (by first | omega | (simp <;> omega)))))).mono ?_); rintro e W3 ⟨v3, rfl, hown3, hb3⟩; obtain ⟨hB3, hC3, hF3, hZ3⟩ := K.bel_facts hb3; clear hb3; obtain ⟨B3, d3, rfl, hR3⟩ := Sl.Rds.of_own hown3; clear hR3)
    | (go_at_call 10; (with_reducible refine (GB.out _ (by repeat (first | (with_reducible exact Below.refl _ _) | (with_reducible refine K.b_bel ?_ (by assumption)) | (with_reducible refine K.b_alloc ?_ _) | (with_reducible refine K.b_drewN ?_ _) | (with_reducible refine K.b_drew ?_) | (with_reducible refine K.b_set ?_ (by first | omega | (simp <;> omega)) _) | (with_reducible refine K.b_only ?_ (by assumption) (by first | omega | (simp <;> omega)))))).mono ?_); rintro e W2 ⟨v2, rfl, hown2, hb2⟩; obtain ⟨hB2, hC2, hF2, hZ2⟩ := K.bel_facts hb2; clear hb2; obtain ⟨B2, d2, rfl, hR2⟩ := Sl.Rds.of_own hown2; clear hR2))
  have l2 := Sl.own_low (base2 := w.heap.size) hown2 hB1.out.size
  have o3 : W3.ownsRow w.heap.size 31 2 (.slice B2 L.length d2) L.length (L.flatMap Pt.cs) := (by repeat (first | (with_reducible exact l2) | (with_reducible refine Sl.own_over ?_ hB3) | (with_reducible refine World.ownsRow.alloc ?_ _)))
  have hb3 : Below w.heap.size w W3 := (by repeat (first | (with_reducible exact Below.refl _ _) | (with_reducible refine K.b_bel ?_ (by assumption)) | (with_reducible refine K.b_alloc ?_ _) | (with_reducible refine K.b_drewN ?_ _) | (with_reducible refine K.b_drew ?_) | (with_reducible refine K.b_set ?_ (by first | omega | (simp <;> omega)) _) | (with_reducible refine K.b_only ?_ (by assumption) (by first | omega | (simp <;> omega)))))
  have hb2 : Below w.heap.size w W2 := (by repeat (first | (with_reducible exact Below.refl _ _) | (with_reducible refine K.b_bel ?_ (by assumption)) | (with_reducible refine K.b_alloc ?_ _) | (with_reducible refine K.b_drewN ?_ _) | (with_reducible refine K.b_drew ?_) | (with_reducible refine K.b_set ?_ (by first | omega | (simp <;> omega)) _) | (with_reducible refine K.b_only ?_ (by assumption) (by first | omega | (simp <;> omega)))))
  obtain ⟨bx, hbx, hbx0, hbx1⟩ : ∃ bx, (0 < L.length → B2 = some ⟨bx, 0, none⟩) ∧ w.heap.size ≤ bx ∧ (bx < W2.heap.size ∨ W3.heap.size ≤ bx) := by
    by_cases h0 : 0 < L.length
    · obtain ⟨g, cap, hv, h1, h2⟩ := own_form hown2 h0
      cases hv
      exact ⟨g, fun _ => rfl, by have := hB1.out.size; omega, .inl h2⟩
    · exact ⟨W3.heap.size, fun h => absurd h h0, hb3.size, .inr (Nat.le_refl _)⟩
  have fU : (Value.slice B3 L.length d3).ownBlock ≠ some bx := fun e => by have h1 := hown3.lt _ e; omega
  have Hbx := K.H.mk hbx
  have Hb3 := K.H.mk hb3
  have Ho3 := K.H.mk (Sl.own_low (base2 := w.heap.size) hown3 hb2.size)
  clear hbx hbx1 hb3 hb2 hown2 hown3 l2 GB GL
  ((try clear hC3); (try clear hF3); (try clear hZ3); (try clear hc3); (try clear hf3); (try clear hl3); (try clear hB3); (try clear hO3); (try clear hA3); (try clear hz3_0); (try clear hz3_1); (try clear hz3_2); (try clear hz3_3); (try clear hz3_1_0); (try clear hz3_1_1); (try clear hz3_2_0); (try clear hz3_2_1); (try clear hC2); (try clear hF2); (try clear hZ2); (try clear hc2); (try clear hf2); (try clear hl2); (try clear hB2); (try clear hO2); (try clear hA2); (try clear hz2_0); (try clear hz2_1); (try clear hz2_2); (try clear hz2_3); (try clear hz2_1_0); (try clear hz2_1_1); (try clear hC1); (try clear hF1); (try clear hZ1); (try clear hc1); (try clear hf1); (try clear hl1); (try clear hB1); (try clear hO1); (try clear hA1); (try clear hz1_0); (try clear hz1_1); (try clear hz1_2); (try clear hz1_3))
  go_loopw [9] (fun i wr => ∃ k : Nat, k ≤ L.length ∧ i = .int .i64 k ∧ K.H (∃ X : List Pt, wr.ownsRow w.heap.size 31 2 (.slice B2 L.length d2) L.length (X.flatMap Pt.cs)) ∧ K.Only W3 wr bx) (fun i _ => L.length - (intOf i).toNat)
  case atStart => exact ⟨0, by omega, rfl, ⟨_, o3⟩, ⟨K.o_refl _ _⟩⟩
  case round =>
    obtain ⟨k, hk, rfl, HX, hO⟩ := hrel
    clear o3
    by_cases hlt : k < L.length
    · obtain rfl := Hbx.out (by omega)
      obtain ⟨X, hown⟩ := HX.out
      have hkl : (k : Int) < (L.length : Int) := by omega
      have HO := K.H.mk hO.out
      clear HX Hbx hO Ho3
      go_wp2_with (first | (with_reducible refine st_own ⟨0, 0⟩ k hown hlt ?hx ?hy ?hi ?h; (case hx => kernel_rfl); (case hy => kernel_rfl); (case hi => kernel_rfl); intro W6 hown6 hO6))
      go_roundw
      case rel => exact ⟨k + 1, by omega, by go_num, ⟨_, hown6⟩, ⟨K.o_only HO.out hO6⟩⟩
      case measure => simp [intOf]; omega
    · obtain rfl : k = L.length := by omega
      have pU := Sl.own_past Ho3.out hO fU
      obtain ⟨B4, d4, he4, hR4⟩ := Sl.Rds.of_own pU
      cases he4
      have hwb : Below w.heap.size w wr := Hb3.out.grown hO.out Hb3.out.size (fun j e => by cases e; omega)
      clear HX Hbx hO Ho3 pU Hb3
      go_wp2_with (first
        | (go_at_call 13; (with_reducible refine (GR.out _ (by repeat (first | (with_reducible exact Below.refl _ _) | (with_reducible exact hwb) | (with_reducible refine K.b_bel ?_ (by assumption)) | (with_reducible refine K.b_alloc ?_ _) | (with_reducible refine K.b_drewN ?_ _) | (with_reducible refine K.b_drew ?_) | (with_reducible refine K.b_set ?_ (by first | omega | (simp <;> omega)) _) | (with_reducible refine K.b_only ?_ (by assumption) (by first | omega | (simp <;> omega)))))).mono ?_); rintro e W6 ⟨v6, rfl, hown6, hb6⟩; obtain ⟨hB6, hC6, hF6, hZ6⟩ := K.bel_facts hb6; clear hb6; obtain ⟨B6, d6, rfl, hR6⟩ := Sl.Rds.of_own hown6; clear hown6)
        | (go_at_call 14; (with_reducible refine (GS.out _ _ _ _ _ ?r1 hR6).mono ?_); (case r1 => exact (by repeat (first | (with_reducible exact hR4) | (with_reducible refine Sl.Rds.bel ?_ hB6) | (with_reducible refine rds_alloc ?_ _)))); rintro e W7 ⟨rfl, hb7⟩; obtain ⟨hB7, hC7, hF7, hZ7⟩ := K.bel_facts hb7; clear hb7)
        | (go_at_call 11; (with_reducible refine (num_c _ _).mono ?_); rintro e w' ⟨rfl, hw'⟩; have hw'2 := Eq.symm hw'; clear hw'; subst hw'2))
      go_ret
      exact ⟨rfl, (by repeat (first | (with_reducible exact Below.refl _ _) | (with_reducible exact hwb) | (with_reducible refine K.b_bel ?_ (by assumption)) | (with_reducible refine K.b_alloc ?_ _) | (with_reducible refine K.b_drewN ?_ _) | (with_reducible refine K.b_drew ?_) | (with_reducible refine K.b_set ?_ (by first | omega | (simp <;> omega)) _) | (with_reducible refine K.b_only ?_ (by assumption) (by first | omega | (simp <;> omega)))))⟩
end Go.Proofs.Ytkalbiihehcjkaa.Rg
