/- Timer: the reference's put. -/
import Derived.Test.YtmoaekjkihbicaaTm6
import Derived.Test.YtmoaekjkihbicaaTm9
set_option linter.unusedVariables false
namespace Go.Proofs.Ytmoaekjkihbicaa.Tm
open Go.RowKit Go.Proofs.Ytmoaekjkihbicaa
set_option linter.unusedSimpArgs false
theorem below_drew2 {B : Nat} {w W : World} (h : Below B w W) : Below B w W.drew := ⟨h.os, h.tape, h.output, h.size, h.block⟩
set_option maxRecDepth 100000 in
set_option maxHeartbeats 8000000 in
theorem rput_c (L : List Tm) (t : Tm) (base : Nat) (v : Value) (w : World) (hown : w.ownsRow base 25 2 v L.length (L.flatMap Tm.cs)) (hbase : base ≤ w.heap.size) (hn : L.length ≤ 1024) :
    Calls Try.prog 40 #[v, t.a] w fun e w' => ∃ g cap, e = .returned (.slice (some ⟨g, 0, none⟩) (L.length + 1) cap) ∧ w'.ownsRow base 25 2 (.slice (some ⟨g, 0, none⟩) (L.length + 1) cap) (L.length + 1) ((pushL L t).flatMap Tm.cs) ∧ Below base w w' := by
  obtain ⟨R, hR⟩ : ∃ R, R = pushL L t := ⟨_, rfl⟩
  have HR := K.H.mk hR
  rw [← hR]
  obtain ⟨A0, c0, rfl, hnc, hcm, hR0⟩ := Sl.Rds.of_own2 hown
  have hl9 : L.flatMap Tm.cs ++ [.int .i64 t.t, .int .i64 t.id] = (L ++ [t]).flatMap Tm.cs := by simp [List.flatMap_append, Tm.cs]
  have Hl9 := K.H.mk hl9
  have Hown := K.H.mk hown
  have HRB := K.H.mk (Sl.own_base hown)
  clear hR hl9 hnc hcm hR0 hown
  go_enter Try.func40, Try.ntmps40
  have hown := Hown.out.alloc (.cells #[.int .i64 t.t, .int .i64 t.id] 25)
  have hb0 : Below base w (w.alloc (.cells #[.int .i64 t.t, .int .i64 t.id] 25)) := (K.b_alloc (Below.refl _ _) _ : Below w.heap.size w _).mono hbase
  go_wp2_with (first | (at_builtin; refine Sl.app1 (news := [.int .i64 t.t, .int .i64 t.id]) rfl _ _ 22 25 (.agg #[.int .i64 0, .int .i64 0]) rfl Try.underlying22 (by kernel_rfl : (Try.prog.info? 25).map (fun i => (i.zero, i.size, i.bytes)) = some (some (.agg #[.int .i64 0, .int .i64 0]), 2, 16)) rfl (by decide) (by decide) rfl ((hown).alloc _) rfl rfl (Sl.new_cells _ _ _ _ (by first | rfl | simp)) (by simp [Value.oneCell']) (by omega) (by simp; omega) ?_; intro v8 W8 hown8 hgr8; rw [Hl9.out] at hown8; obtain ⟨g8, cap8, rfl, hgb8, hgl8⟩ := form_t hown8 (by omega); obtain ⟨M, hM⟩ : ∃ M, M = L.length + 1 := ⟨_, rfl⟩; rw [← hM] at hown8 ⊢; have HMM := K.H.mk hM; have hwM : IntKind.i64.wrap ((M : Int) - 1) = (L.length : Int) := (by rw [K.i64_in (by omega) (by omega)]; omega); clear hM))
  have hM := HMM.out
  have hM0 : L.length < M := by omega
  have hM1 : M ≤ 1025 := by omega
  have hb8 : Below base w W8 := ((hb0.trans ((K.b_alloc (Below.refl _ _) _ : Below _ _ _).mono (by simp; omega))).grown hgr8 (by simp; omega) (fun k hk => HRB.out k hk))
  have Hb8 := K.H.mk hb8
  have HR2 := K.H.mk (show R = up (L.length + 1) (L ++ [t]) L.length from HR.out)
  have hlt : (L ++ [t]).length = M := by simp [hM]
  clear hM HR Hl9 hown hb0 hgr8 hb8 HRB Hown
  generalize L ++ [t] = C0 at *
  clear hwM
  go_loopw [5] (fun v5 wr => ∃ (f i : Nat) (C : List Tm), v5 = .int .i64 i ∧ i < f ∧ i ≤ L.length ∧ C.length = M ∧ K.H (R = up f C i) ∧ wr.ownsRow base 25 2 (.slice (some ⟨g8, 0, none⟩) M cap8) M (C.flatMap Tm.cs) ∧ K.H (Below base w wr)) (fun v5 _ => (intOf v5).toNat)
  case atStart => exact ⟨L.length + 1, L.length, C0, rfl, by omega, by omega, hlt, HR2, hown8, Hb8⟩
  case round =>
    clear hown8 Hb8 HR2
    obtain ⟨f, i, C, rfl, hif, hin, hCl, HR, hown, Hb⟩ := hrel
    have hsz := Hb.out.size
    have hsz' : base ≤ wr.heap.size := by omega
    have hgl := (hown.lt g8 rfl).2
    obtain ⟨f, rfl⟩ : ∃ f', f = f' + 1 := ⟨f - 1, by omega⟩
    by_cases h0 : i = 0
    · have hRC : R = C := by rw [HR.out]; unfold up; rw [if_neg (by simp [badAt, h0])]
      have d0 : decide ((0 : Int) < (i : Int)) = false := decide_eq_false (by omega)
      have d0n : decide (0 < i) = false := decide_eq_false (by omega)
      clear HR h0 hif hin
      subst hRC
      go_wp2
      refine K.wp_region_ext_lit (by kernel_rfl) (by kernel_rfl) ?_
      repeat (any_goals (first | go_big_quiet_skip | quiet_step (fail) | (refine wpQuiet_step (fun K hK => ?_); go_simp; split <;> (refine hK _ ?_; clear hK K))))
      all_goals (refine wpQuiet_nil ?_; intro W9 hW9; obtain ⟨hB9, hC9, hF9, hZ9⟩ := K.ext_facts hW9; clear hW9)
      all_goals go_wp2
      go_ret
      exact ⟨g8, cap8, by rw [HMM.out]; rfl, HMM.out ▸ Sl.own_over hown hB9, Hb.out.trans (hB9.out.mono hsz')⟩
    · have hpi : (i - 1) / 2 < i := by omega
      obtain ⟨x, hx⟩ : ∃ x, C[i]? = some x := ⟨_, List.getElem?_eq_getElem (by omega)⟩
      obtain ⟨y, hy⟩ : ∃ y, C[(i - 1) / 2]? = some y := ⟨_, List.getElem?_eq_getElem (by omega)⟩
      have HBD := K.H.mk (show badAt C i = x.lt y by unfold badAt; rw [List.getD_eq_getElem?_getD, List.getD_eq_getElem?_getD, hx, hy, decide_eq_true (by omega : 0 < i), Option.getD_some, Option.getD_some, Bool.true_and])
      have HSW := K.H.mk (show swp C i ((i - 1) / 2) = (C.set i y).set ((i - 1) / 2) x by unfold swp; rw [List.getD_eq_getElem?_getD, List.getD_eq_getElem?_getD, hx, hy, Option.getD_some, Option.getD_some])
      have GH := K.H.mk (fun (W : World) => rAhead_c x y W)
      have d0 : decide ((0 : Int) < (i : Int)) = true := decide_eq_true (by omega)
      have d0n : decide (0 < i) = true := decide_eq_true (by omega)
      have hw1 : IntKind.i64.wrap ((i : Int) - 1) = ((i - 1 : Nat) : Int) := by rw [K.i64_in (by omega) (by omega)]; omega
      have hq1 : ((i - 1 : Nat) : Int).tdiv 2 = (((i - 1) / 2 : Nat) : Int) := by rw [Int.natCast_ediv]; exact Int.tdiv_eq_ediv_of_nonneg (by omega)
      have hm1 : (i - 1) / 2 ≤ 1024 := by omega
      have hc0 : wr.cell? ⟨g8, i * 2, none⟩ = some (.int .i64 x.t) := by
        rw [hown.cellAt _ (by omega)]; have := Sl.flat_get Tm.cs_len C i 0 x hx (by omega); simpa [Tm.cs] using this
      have hc1 : wr.cell? ⟨g8, i * 2 + 1, none⟩ = some (.int .i64 x.id) := by
        rw [hown.cellAt _ (by omega)]; have := Sl.flat_get Tm.cs_len C i 1 x hx (by omega); simpa [Tm.cs] using this
      have hc2 : wr.cell? ⟨g8, ((i - 1) / 2) * 2, none⟩ = some (.int .i64 y.t) := by
        rw [hown.cellAt _ (by omega)]; have := Sl.flat_get Tm.cs_len C ((i - 1) / 2) 0 y hy (by omega); simpa [Tm.cs] using this
      have hc3 : wr.cell? ⟨g8, ((i - 1) / 2) * 2 + 1, none⟩ = some (.int .i64 y.id) := by
        rw [hown.cellAt _ (by omega)]; have := Sl.flat_get Tm.cs_len C ((i - 1) / 2) 1 y hy (by omega); simpa [Tm.cs] using this
      have hf0 := hown.frozenAt (i * 2)
      have hf1 := hown.frozenAt (i * 2 + 1)
      have hf2 := hown.frozenAt (((i - 1) / 2) * 2)
      have hf3 := hown.frozenAt (((i - 1) / 2) * 2 + 1)
      have Hown := K.H.mk hown
      clear hx hy hown h0
      generalize hme : (i - 1) / 2 = m at *
      have HM := K.H.mk hme
      clear hme
      have HBN := K.H.mk (show L.length < M ∧ M ≤ 1025 ∧ i ≤ L.length ∧ C.length = M ∧ i < f + 1 ∧ m ≤ 1024 ∧ m < i from ⟨hM0, hM1, hin, hCl, hif, hm1, hpi⟩)
      have e1 : i * 2 ≠ m * 2 := by omega
      have e2 : i * 2 ≠ m * 2 + 1 := by omega
      have e3 : i * 2 + 1 ≠ m * 2 := by omega
      have e4 : i * 2 + 1 ≠ m * 2 + 1 := by omega
      have e5 : m * 2 ≠ i * 2 := by omega
      have e6 : m * 2 ≠ i * 2 + 1 := by omega
      have e7 : m * 2 + 1 ≠ i * 2 := by omega
      have e8 : m * 2 + 1 ≠ i * 2 + 1 := by omega
      have hil : (i : Int) < (M : Int) := by omega
      have hml : (m : Int) < (M : Int) := by omega
      have hi0 : (0 : Int) ≤ (i : Int) := by omega
      have hm0 : (0 : Int) ≤ (m : Int) := by omega
      have hw3 : IntKind.i64.wrap ((m : Nat) : Int) = ((m : Nat) : Int) := by clear hw1 hq1; exact K.i64_in (by omega) (by omega)
      have hw2 : wrap64 ((m : Nat) : Int) = ((m : Nat) : Int) := by clear hw1 hq1 hw3; unfold wrap64; omega
      clear hM0 hM1 hin hCl hif hm1 hpi
      obtain ⟨q, hqe⟩ : ∃ q, q = x.lt y := ⟨_, rfl⟩
      have HQ := K.H.mk hqe
      rw [← hqe] at GH HBD
      clear hqe
      cases q
      · have hRC : R = C := by rw [HR.out]; unfold up; rw [if_neg (by rw [HBD.out]; simp)]
        clear HR
        subst hRC
        go_wp2
        refine K.wp_region_ext_lit (by kernel_rfl) (by kernel_rfl) ?_
        repeat (any_goals (first | go_big_quiet_skip | quiet_step ((go_at_call 12; first | (with_reducible exact K.q_below (GH.out _)))) | (refine wpQuiet_step (fun K hK => ?_); go_simp; split <;> (refine hK _ ?_; clear hK K))))
        all_goals (refine wpQuiet_nil ?_; intro W9 hW9; obtain ⟨hB9, hC9, hF9, hZ9⟩ := K.ext_facts hW9; clear hW9)
        all_goals go_wp2
        go_ret
        exact ⟨g8, cap8, by rw [HMM.out]; rfl, HMM.out ▸ Sl.own_over Hown.out hB9, Hb.out.trans (hB9.out.mono hsz')⟩
      · have HR3 := K.H.mk (show R = up f (swp C i m) m by rw [HR.out]; conv => lhs; unfold up; rw [if_pos HBD.out, HM.out])
        clear HR
        go_wp2
        refine K.wp_region_ext_lit (by kernel_rfl) (by kernel_rfl) ?_
        repeat (any_goals (first | go_big_quiet_skip | quiet_step ((go_at_call 12; first | (with_reducible exact K.q_below (GH.out _)))) | (refine wpQuiet_step (fun K hK => ?_); go_simp; split <;> (refine hK _ ?_; clear hK K))))
        all_goals (refine wpQuiet_nil ?_; intro W9 hW9; obtain ⟨hB9, hC9, hF9, hZ9⟩ := K.ext_facts hW9; clear hW9)
        all_goals go_wp2
        have hown9 := Sl.own_over Hown.out hB9
        have hown1 : W9.drew.ownsRow base 25 2 (.slice (some ⟨g8, 0, none⟩) M cap8) M (C.flatMap Tm.cs) := hown9
        have HO := K.H.mk (own_put (k := m) x (own_put (k := i) y hown1))
        rw [← HSW.out] at HO
        clear hown9 hown1
        have hb9 := Hb.out.trans (hB9.out.mono hsz')
        clear HM GH HMM d0 d0n
        clear hw2 hn hbase hsz
        go_region
        all_goals go_wp2
        all_goals go_roundw
        case rel => exact ⟨f, m, swp C i m, rfl, by clear hw1 hw3 hq1; have := HBN.out; omega, by clear hw1 hw3 hq1; have := HBN.out; omega, by rw [swp_len]; exact HBN.out.2.2.2.1, HR3, HO.out, ⟨below_drew2 ((((hb9.setCell (p := ⟨g8, i * 2, none⟩) hgb8 _).setCell (p := ⟨g8, i * 2 + 1, none⟩) hgb8 _).setCell (p := ⟨g8, m * 2, none⟩) hgb8 _).setCell (p := ⟨g8, m * 2 + 1, none⟩) hgb8 _)⟩⟩
        case measure =>
          have h9 := HBN.out.2.2.2.2.2.2
          clear hw1 hw3 hq1 HBN
          simp only [intOf, Int.toNat_natCast]; exact h9
end Go.Proofs.Ytmoaekjkihbicaa.Tm
