/- Timer: the reference's take. -/
import Derived.Test.YtmoaekjkihbicaaTm11
import Derived.Test.YtmoaekjkihbicaaTm9
set_option linter.unusedVariables false
namespace Go.Proofs.Ytmoaekjkihbicaa.Tm
open Go.RowKit Go.Proofs.Ytmoaekjkihbicaa
set_option linter.unusedSimpArgs false
set_option maxRecDepth 100000 in
set_option maxHeartbeats 8000000 in
theorem rtake_c (x0 : Tm) (r : List Tm) (g n cap base : Nat) (w : World) (hown : w.ownsRow base 25 2 (.slice (some ⟨g, 0, none⟩) (n + 1) cap) (n + 1) ((x0 :: r).flatMap Tm.cs)) (hn : n + 1 ≤ 1024) :
    Calls Try.prog 41 #[.slice (some ⟨g, 0, none⟩) (n + 1) cap] w fun e w' => e = .returned (.slice (some ⟨g, 0, none⟩) n cap) ∧ w'.ownsRow base 25 2 (.slice (some ⟨g, 0, none⟩) n cap) n ((popL (x0 :: r)).flatMap Tm.cs) ∧ w.grownBy w' (some g) := by
  have hl : (x0 :: r).length = n + 1 := by have := hown.1; rw [Sl.flat_len Tm.cs_len] at this; omega
  obtain ⟨y0, hy⟩ : ∃ y, (x0 :: r)[n]? = some y := ⟨_, List.getElem?_eq_getElem (by omega)⟩
  have hcap : n + 1 ≤ cap := by
    rcases hown.2 with ⟨h3, _⟩ | ⟨g2, cap2, cur, h3, hb, hg, h4, _⟩
    · cases h3
    · cases h3; exact h4
  have hc2 : w.cell? ⟨g, n * 2, none⟩ = some (.int .i64 y0.t) := by
    rw [hown.cellAt _ (by omega)]; have := Sl.flat_get Tm.cs_len (x0 :: r) n 0 y0 hy (by omega); simpa [Tm.cs] using this
  have hc3 : w.cell? ⟨g, n * 2 + 1, none⟩ = some (.int .i64 y0.id) := by
    rw [hown.cellAt _ (by omega)]; have := Sl.flat_get Tm.cs_len (x0 :: r) n 1 y0 hy (by omega); simpa [Tm.cs] using this
  have hc0 : w.cell? ⟨g, 0, none⟩ = some (.int .i64 x0.t) := by
    rw [hown.cellAt _ (by omega)]; rfl
  have hc1 : w.cell? ⟨g, 1, none⟩ = some (.int .i64 x0.id) := by
    rw [hown.cellAt _ (by omega)]; rfl
  have hgl0 : g < w.heap.size := (hown.lt g rfl).2
  have hf0 := hown.frozenAt 0
  have hf1 := hown.frozenAt 1
  obtain ⟨L, hL⟩ : ∃ L, L = ((x0 :: r).set 0 y0).take n := ⟨_, rfl⟩
  have hLl : L.length = n := by rw [hL]; simp at hl ⊢; omega
  have hP : popL (x0 :: r) = down (n + 2) L 0 := by
    unfold popL offL; rw [hl, Nat.add_sub_cancel, List.getD_eq_getElem?_getD, hy, hL]; rfl
  obtain ⟨R, hR⟩ : ∃ R, R = popL (x0 :: r) := ⟨_, rfl⟩
  rw [← hR]
  have HR0 := K.H.mk (hR.trans hP)
  have h1 := (hown.stored 0 (.int .i64 y0.t)).1
  have h2 := (h1.stored 1 (.int .i64 y0.id)).1
  have h3 := flat_set (x0 :: r) 0 y0
  rw [Nat.zero_mul, Nat.zero_add] at h3
  rw [h3] at h2
  have h4 := own_take (k := n) h2 (by omega)
  rw [← hL] at h4
  have H4 := K.H.mk h4
  have HG0 := K.H.mk (K.o_set (K.o_set (K.o_refl w g) 0 (.int .i64 y0.t)) 1 (.int .i64 y0.id))
  have hwn : IntKind.i64.wrap (((n + 1 : Nat) : Int) - 1) = (n : Int) := by rw [K.i64_in (by omega) (by omega)]; omega
  have hwn2 : IntKind.i64.wrap ((n : Int) + 1 - 1) = (n : Int) := by rw [K.i64_in (by omega) (by omega)]; omega
  have hn1 : (n : Int) < ((n + 1 : Nat) : Int) := by omega
  have hn0 : (0 : Int) ≤ (n : Int) := by omega
  have hnc : (n : Int) ≤ (cap : Int) := by omega
  have hnc2 : n ≤ cap := by omega
  have HN := K.H.mk hn
  have HLl := K.H.mk hLl
  clear hR hP h1 h2 h3 h4 hown hy hl hL hLl hcap
  go_enter Try.func41, Try.ntmps41
  go_wp2
  clear hc0 hc1 hc2 hc3 hf0 hf1 hwn hwn2 hn1 hn0 hnc hnc2 hn hgl0
  go_loopw [4] (fun v1 wr => ∃ (f i : Nat) (C : List Tm), v1 = .int .i64 i ∧ i ≤ n ∧ C.length = n ∧ K.H (n < f + i) ∧ K.H (R = down f C i) ∧ wr.ownsRow base 25 2 (.slice (some ⟨g, 0, none⟩) n cap) n (C.flatMap Tm.cs) ∧ K.H (w.grownBy wr (some g))) (fun v1 _ => n - (intOf v1).toNat)
  case atStart => exact ⟨n + 2, 0, L, rfl, by omega, HLl.out, ⟨by omega⟩, HR0, H4.out, HG0⟩
  case round =>
    clear H4 HR0 HG0
    obtain ⟨f, i, C, rfl, hin, hCl, HF, HR, hown, Hb⟩ := hrel
    have hgl := (hown.lt g rfl).2
    have Hown := K.H.mk hown
    obtain ⟨f, rfl⟩ : ∃ f', f = f' + 1 := ⟨f - 1, by have := HF.out; omega⟩
    have hn24 := HN.out
    obtain ⟨m, hm⟩ : ∃ m, m = 2 * i + 1 := ⟨_, rfl⟩
    obtain ⟨m2, hm2⟩ : ∃ m2, m2 = 2 * i + 2 := ⟨_, rfl⟩
    by_cases hA : n ≤ m
    · have hRC : R = C := by rw [HR.out]; unfold down; rw [if_neg (fun h => by omega)]
      have d1 : decide ((n : Int) ≤ (m : Int)) = true := decide_eq_true (by omega)
      have d1n : decide (n ≤ m) = true := decide_eq_true hA
      have hw0 : IntKind.i64.wrap (2 * (i : Int)) = 2 * (i : Int) := K.i64_in (by omega) (by omega)
      have hw1 : IntKind.i64.wrap (2 * (i : Int) + 1) = (m : Int) := by rw [K.i64_in (by omega) (by omega)]; omega
      clear HR
      subst hRC
      clear hm hm2 hin hCl hn24 hA
      go_wp2
      go_ret
      exact ⟨rfl, Hown.out, Hb.out⟩
    · have d1 : decide ((n : Int) ≤ (m : Int)) = false := decide_eq_false (by omega)
      have d1n : decide (n ≤ m) = false := decide_eq_false hA
      obtain ⟨x, hx⟩ : ∃ x, C[i]? = some x := ⟨_, List.getElem?_eq_getElem (by omega)⟩
      obtain ⟨y, hy⟩ : ∃ y, C[m]? = some y := ⟨_, List.getElem?_eq_getElem (by omega)⟩
      have hf2 := HF.out
      have hci : wr.cell? ⟨g, i * 2, none⟩ = some (.int .i64 x.t) := by
        rw [hown.cellAt _ (by omega)]; have := Sl.flat_get Tm.cs_len C i 0 x hx (by omega); simpa [Tm.cs] using this
      have hci1 : wr.cell? ⟨g, i * 2 + 1, none⟩ = some (.int .i64 x.id) := by
        rw [hown.cellAt _ (by omega)]; have := Sl.flat_get Tm.cs_len C i 1 x hx (by omega); simpa [Tm.cs] using this
      have hcm : wr.cell? ⟨g, m * 2, none⟩ = some (.int .i64 y.t) := by
        rw [hown.cellAt _ (by omega)]; have := Sl.flat_get Tm.cs_len C m 0 y hy (by omega); simpa [Tm.cs] using this
      have hcm1 : wr.cell? ⟨g, m * 2 + 1, none⟩ = some (.int .i64 y.id) := by
        rw [hown.cellAt _ (by omega)]; have := Sl.flat_get Tm.cs_len C m 1 y hy (by omega); simpa [Tm.cs] using this
      have hfi0 := hown.frozenAt (i * 2)
      have hfi1 := hown.frozenAt (i * 2 + 1)
      have hiI : (i : Int) < (n : Int) := by omega
      have hmI : (m : Int) < (n : Int) := by omega
      have hi0 : (0 : Int) ≤ (i : Int) := by omega
      have hmI0 : (0 : Int) ≤ (m : Int) := by omega
      have HBN := K.H.mk (show i ≤ n ∧ C.length = n ∧ m < n ∧ n ≤ 1024 ∧ m = 2 * i + 1 ∧ m2 = 2 * i + 2 ∧ n < f + 1 + i from ⟨hin, hCl, by omega, by omega, hm, hm2, hf2⟩)
      by_cases h2 : m2 < n
      · have d2 : decide ((m2 : Int) < (n : Int)) = true := decide_eq_true (by omega)
        have d2n : decide (m2 < n) = true := decide_eq_true h2
        have h2l : m2 < C.length := by omega
        obtain ⟨y2, hy2⟩ : ∃ y2, C[m2]? = some y2 := ⟨_, List.getElem?_eq_getElem h2l⟩
        have hcp : wr.cell? ⟨g, m2 * 2, none⟩ = some (.int .i64 y2.t) := by
          rw [hown.cellAt _ (by omega)]; have := Sl.flat_get Tm.cs_len C m2 0 y2 hy2 (by omega); simpa [Tm.cs] using this
        have hcp1 : wr.cell? ⟨g, m2 * 2 + 1, none⟩ = some (.int .i64 y2.id) := by
          rw [hown.cellAt _ (by omega)]; have := Sl.flat_get Tm.cs_len C m2 1 y2 hy2 (by omega); simpa [Tm.cs] using this
        have hpI : (m2 : Int) < (n : Int) := by omega
        have hpI0 : (0 : Int) ≤ (m2 : Int) := by omega
        have G2 := K.H.mk (fun (W : World) => rAhead_c y2 y W)
        have HKD0 := K.H.mk (show kid C i = if y2.lt y = true then m2 else m by
          unfold kid
          rw [show gt C (2 * i + 2) = y2 by unfold gt; rw [← hm2, List.getD_eq_getElem?_getD, hy2]; rfl, show gt C (2 * i + 1) = y by unfold gt; rw [← hm, List.getD_eq_getElem?_getD, hy]; rfl, ← hm2, ← hm]
          by_cases h : y2.lt y = true
          · rw [if_pos ⟨h2l, h⟩, if_pos h]
          · rw [if_neg (fun h9 => h h9.2), if_neg h])
        have HM2 := K.H.mk h2
        have hw0 : IntKind.i64.wrap (2 * (i : Int)) = 2 * (i : Int) := K.i64_in (by omega) (by omega)
        have hw1 : IntKind.i64.wrap (2 * (i : Int) + 1) = (m : Int) := by rw [K.i64_in (by omega) (by omega)]; omega
        have hw2 : IntKind.i64.wrap ((m : Int) + 1) = (m2 : Int) := by rw [K.i64_in (by omega) (by omega)]; omega
        obtain ⟨q2, hq2⟩ : ∃ q, q = y2.lt y := ⟨_, rfl⟩
        rw [← hq2] at G2 HKD0
        clear hq2 hm hm2 hin hCl hn24 hA hf2 h2 h2l hown
        cases q2
        · have HKD := K.H.mk (show kid C i = m from HKD0.out)
          clear HKD0 hy2
          have hz := hy
          generalize y = z at *
          clear hy
          have G1 := K.H.mk (fun (W : World) => rAhead_c z x W)
          have HSW := K.H.mk (show swp C i m = (C.set i z).set m x by unfold swp; rw [List.getD_eq_getElem?_getD, List.getD_eq_getElem?_getD, hx, hz, Option.getD_some, Option.getD_some])
          have HCD := K.H.mk (show (2 * i + 1 < C.length ∧ (gt C (kid C i)).lt (gt C i) = true) ↔ z.lt x = true by
            have h7 := HBN.out
            rw [HKD.out]; unfold gt; rw [List.getD_eq_getElem?_getD, List.getD_eq_getElem?_getD, hx, hz]
            simp only [Option.getD_some]
            exact ⟨fun h => h.2, fun h => ⟨by omega, h⟩⟩)
          have hki : i ≠ m := by have := HBN.out; omega
          have e1 : i * 2 ≠ m * 2 := by omega
          have e2 : i * 2 ≠ m * 2 + 1 := by omega
          have e3 : i * 2 + 1 ≠ m * 2 := by omega
          have e4 : i * 2 + 1 ≠ m * 2 + 1 := by omega
          have e5 : m * 2 ≠ i * 2 := by omega
          have e6 : m * 2 ≠ i * 2 + 1 := by omega
          have e7 : m * 2 + 1 ≠ i * 2 := by omega
          have e8 : m * 2 + 1 ≠ i * 2 + 1 := by omega
          have hfk0 := Hown.out.frozenAt (m * 2)
          have hfk1 := Hown.out.frozenAt (m * 2 + 1)
          obtain ⟨q, hqe⟩ : ∃ q, q = z.lt x := ⟨_, rfl⟩
          rw [← hqe] at G1 HCD
          clear hqe hx hz hki
          cases q
          · have hRC : R = C := by rw [HR.out]; unfold down; rw [if_neg (fun h => by have := HCD.out.1 h; cases this)]
            clear HR
            subst hRC
            go_wp2
            refine K.wp_region_ext_lit (by kernel_rfl) (by kernel_rfl) ?_
            repeat (any_goals (first | go_big_quiet_skip | quiet_step ((go_at_call 12; first | (with_reducible exact K.q_below (G2.out _)))) | (refine wpQuiet_step (fun K hK => ?_); go_simp; split <;> (refine hK _ ?_; clear hK K))))
            all_goals (refine wpQuiet_nil ?_; intro W9 hW9; obtain ⟨hB9, hC9, hF9, hZ9⟩ := K.ext_facts hW9; clear hW9)
            have hgl9 : g < W9.heap.size := Nat.lt_of_lt_of_le hgl hZ9
            go_wp2
            refine K.wp_region_ext_lit (by kernel_rfl) (by kernel_rfl) ?_
            repeat (any_goals (first | go_big_quiet_skip | quiet_step ((go_at_call 12; first | (with_reducible exact K.q_below (G1.out _)))) | (refine wpQuiet_step (fun K hK => ?_); go_simp; split <;> (refine hK _ ?_; clear hK K))))
            all_goals (refine wpQuiet_nil ?_; intro W8 hW8; obtain ⟨hB8, hC8, hF8, hZ8⟩ := K.ext_facts hW8; clear hW8)
            go_wp2
            go_ret
            exact ⟨rfl, Sl.own_over (Sl.own_over Hown.out hB9) hB8, K.o_bel (K.o_bel Hb.out hB9) hB8⟩
          · have HR3 := K.H.mk (show R = down f (swp C i m) m by rw [HR.out]; conv => lhs; unfold down; rw [if_pos (HCD.out.2 rfl), HKD.out])
            clear HR
            go_wp2
            refine K.wp_region_ext_lit (by kernel_rfl) (by kernel_rfl) ?_
            repeat (any_goals (first | go_big_quiet_skip | quiet_step ((go_at_call 12; first | (with_reducible exact K.q_below (G2.out _)))) | (refine wpQuiet_step (fun K hK => ?_); go_simp; split <;> (refine hK _ ?_; clear hK K))))
            all_goals (refine wpQuiet_nil ?_; intro W9 hW9; obtain ⟨hB9, hC9, hF9, hZ9⟩ := K.ext_facts hW9; clear hW9)
            have hgl9 : g < W9.heap.size := Nat.lt_of_lt_of_le hgl hZ9
            go_wp2
            refine K.wp_region_ext_lit (by kernel_rfl) (by kernel_rfl) ?_
            repeat (any_goals (first | go_big_quiet_skip | quiet_step ((go_at_call 12; first | (with_reducible exact K.q_below (G1.out _)))) | (refine wpQuiet_step (fun K hK => ?_); go_simp; split <;> (refine hK _ ?_; clear hK K))))
            all_goals (refine wpQuiet_nil ?_; intro W8 hW8; obtain ⟨hB8, hC8, hF8, hZ8⟩ := K.ext_facts hW8; clear hW8)
            go_wp2
            have hgl8 : g < W8.heap.size := Nat.lt_of_lt_of_le hgl9 hZ8
            have hown8 := Sl.own_over (Sl.own_over Hown.out hB9) hB8
            have hown1 : W8.drew.ownsRow base 25 2 (.slice (some ⟨g, 0, none⟩) n cap) n (C.flatMap Tm.cs) := hown8
            have HO := K.H.mk (own_put (k := m) x (own_put (k := i) z hown1))
            rw [← HSW.out] at HO
            have HG := K.H.mk (K.o_bel (K.o_bel Hb.out hB9) hB8)
            clear hown8 hown1 G1 G2 HCD HKD HSW Hown hw0 hw1 hw2
            go_region
            all_goals go_wp2
            all_goals go_roundw
            case rel =>
              have h9 := HBN.out
              exact ⟨f, m, swp C i m, rfl, by omega, by rw [swp_len]; omega, ⟨by omega⟩, HR3, HO.out, ⟨K.o_drew (K.o_set (K.o_set (K.o_set (K.o_set HG.out _ _) _ _) _ _) _ _)⟩⟩
            case measure =>
              have h9 := HBN.out
              simp only [intOf, Int.toNat_natCast]; omega
        · have HKD := K.H.mk (show kid C i = m2 from HKD0.out)
          clear HKD0
          have hz := hy2
          clear hy2
          have HBN9 := HBN
          clear HBN
          have HBN := K.H.mk (show i ≤ n ∧ C.length = n ∧ m < n ∧ n ≤ 1024 ∧ m = 2 * i + 1 ∧ m2 = 2 * i + 2 ∧ n < f + 1 + i ∧ m2 < n from ⟨HBN9.out.1, HBN9.out.2.1, HBN9.out.2.2.1, HBN9.out.2.2.2.1, HBN9.out.2.2.2.2.1, HBN9.out.2.2.2.2.2.1, HBN9.out.2.2.2.2.2.2, HM2.out⟩)
          generalize y2 = z at *
          have G1 := K.H.mk (fun (W : World) => rAhead_c z x W)
          have HSW := K.H.mk (show swp C i m2 = (C.set i z).set m2 x by unfold swp; rw [List.getD_eq_getElem?_getD, List.getD_eq_getElem?_getD, hx, hz, Option.getD_some, Option.getD_some])
          have HCD := K.H.mk (show (2 * i + 1 < C.length ∧ (gt C (kid C i)).lt (gt C i) = true) ↔ z.lt x = true by
            have h7 := HBN.out
            rw [HKD.out]; unfold gt; rw [List.getD_eq_getElem?_getD, List.getD_eq_getElem?_getD, hx, hz]
            simp only [Option.getD_some]
            exact ⟨fun h => h.2, fun h => ⟨by omega, h⟩⟩)
          have hki : i ≠ m2 := by have := HBN.out; omega
          have e1 : i * 2 ≠ m2 * 2 := by omega
          have e2 : i * 2 ≠ m2 * 2 + 1 := by omega
          have e3 : i * 2 + 1 ≠ m2 * 2 := by omega
          have e4 : i * 2 + 1 ≠ m2 * 2 + 1 := by omega
          have e5 : m2 * 2 ≠ i * 2 := by omega
          have e6 : m2 * 2 ≠ i * 2 + 1 := by omega
          have e7 : m2 * 2 + 1 ≠ i * 2 := by omega
          have e8 : m2 * 2 + 1 ≠ i * 2 + 1 := by omega
          have hfk0 := Hown.out.frozenAt (m2 * 2)
          have hfk1 := Hown.out.frozenAt (m2 * 2 + 1)
          obtain ⟨q, hqe⟩ : ∃ q, q = z.lt x := ⟨_, rfl⟩
          rw [← hqe] at G1 HCD
          clear hqe hx hz hki
          cases q
          · have hRC : R = C := by rw [HR.out]; unfold down; rw [if_neg (fun h => by have := HCD.out.1 h; cases this)]
            clear HR
            subst hRC
            go_wp2
            refine K.wp_region_ext_lit (by kernel_rfl) (by kernel_rfl) ?_
            repeat (any_goals (first | go_big_quiet_skip | quiet_step ((go_at_call 12; first | (with_reducible exact K.q_below (G2.out _)))) | (refine wpQuiet_step (fun K hK => ?_); go_simp; split <;> (refine hK _ ?_; clear hK K))))
            all_goals (refine wpQuiet_nil ?_; intro W9 hW9; obtain ⟨hB9, hC9, hF9, hZ9⟩ := K.ext_facts hW9; clear hW9)
            have hgl9 : g < W9.heap.size := Nat.lt_of_lt_of_le hgl hZ9
            go_wp2
            refine K.wp_region_ext_lit (by kernel_rfl) (by kernel_rfl) ?_
            repeat (any_goals (first | go_big_quiet_skip | quiet_step ((go_at_call 12; first | (with_reducible exact K.q_below (G1.out _)))) | (refine wpQuiet_step (fun K hK => ?_); go_simp; split <;> (refine hK _ ?_; clear hK K))))
            all_goals (refine wpQuiet_nil ?_; intro W8 hW8; obtain ⟨hB8, hC8, hF8, hZ8⟩ := K.ext_facts hW8; clear hW8)
            go_wp2
            go_ret
            exact ⟨rfl, Sl.own_over (Sl.own_over Hown.out hB9) hB8, K.o_bel (K.o_bel Hb.out hB9) hB8⟩
          · have HR3 := K.H.mk (show R = down f (swp C i m2) m2 by rw [HR.out]; conv => lhs; unfold down; rw [if_pos (HCD.out.2 rfl), HKD.out])
            clear HR
            go_wp2
            refine K.wp_region_ext_lit (by kernel_rfl) (by kernel_rfl) ?_
            repeat (any_goals (first | go_big_quiet_skip | quiet_step ((go_at_call 12; first | (with_reducible exact K.q_below (G2.out _)))) | (refine wpQuiet_step (fun K hK => ?_); go_simp; split <;> (refine hK _ ?_; clear hK K))))
            all_goals (refine wpQuiet_nil ?_; intro W9 hW9; obtain ⟨hB9, hC9, hF9, hZ9⟩ := K.ext_facts hW9; clear hW9)
            have hgl9 : g < W9.heap.size := Nat.lt_of_lt_of_le hgl hZ9
            go_wp2
            refine K.wp_region_ext_lit (by kernel_rfl) (by kernel_rfl) ?_
            repeat (any_goals (first | go_big_quiet_skip | quiet_step ((go_at_call 12; first | (with_reducible exact K.q_below (G1.out _)))) | (refine wpQuiet_step (fun K hK => ?_); go_simp; split <;> (refine hK _ ?_; clear hK K))))
            all_goals (refine wpQuiet_nil ?_; intro W8 hW8; obtain ⟨hB8, hC8, hF8, hZ8⟩ := K.ext_facts hW8; clear hW8)
            go_wp2
            have hgl8 : g < W8.heap.size := Nat.lt_of_lt_of_le hgl9 hZ8
            have hown8 := Sl.own_over (Sl.own_over Hown.out hB9) hB8
            have hown1 : W8.drew.ownsRow base 25 2 (.slice (some ⟨g, 0, none⟩) n cap) n (C.flatMap Tm.cs) := hown8
            have HO := K.H.mk (own_put (k := m2) x (own_put (k := i) z hown1))
            rw [← HSW.out] at HO
            have HG := K.H.mk (K.o_bel (K.o_bel Hb.out hB9) hB8)
            clear hown8 hown1 G1 G2 HCD HKD HSW Hown hw0 hw1 hw2
            go_region
            all_goals go_wp2
            all_goals go_roundw
            case rel =>
              have h9 := HBN.out
              exact ⟨f, m2, swp C i m2, rfl, by omega, by rw [swp_len]; omega, ⟨by omega⟩, HR3, HO.out, ⟨K.o_drew (K.o_set (K.o_set (K.o_set (K.o_set HG.out _ _) _ _) _ _) _ _)⟩⟩
            case measure =>
              have h9 := HBN.out
              simp only [intOf, Int.toNat_natCast]; omega
      · have d2 : decide ((m2 : Int) < (n : Int)) = false := decide_eq_false (by omega)
        have d2n : decide (m2 < n) = false := decide_eq_false h2
        have HKD := K.H.mk (show kid C i = m by unfold kid; rw [if_neg (fun h => h2 (by omega))]; exact hm.symm)
        have hw0 : IntKind.i64.wrap (2 * (i : Int)) = 2 * (i : Int) := K.i64_in (by omega) (by omega)
        have hw1 : IntKind.i64.wrap (2 * (i : Int) + 1) = (m : Int) := by rw [K.i64_in (by omega) (by omega)]; omega
        have hw2 : IntKind.i64.wrap ((m : Int) + 1) = (m2 : Int) := by rw [K.i64_in (by omega) (by omega)]; omega
        clear hm hm2 hin hCl hn24 hA hf2 h2 hown
        have hz := hy
        generalize y = z at *
        clear hy
        have G1 := K.H.mk (fun (W : World) => rAhead_c z x W)
        have HSW := K.H.mk (show swp C i m = (C.set i z).set m x by unfold swp; rw [List.getD_eq_getElem?_getD, List.getD_eq_getElem?_getD, hx, hz, Option.getD_some, Option.getD_some])
        have HCD := K.H.mk (show (2 * i + 1 < C.length ∧ (gt C (kid C i)).lt (gt C i) = true) ↔ z.lt x = true by
          have h7 := HBN.out
          rw [HKD.out]; unfold gt; rw [List.getD_eq_getElem?_getD, List.getD_eq_getElem?_getD, hx, hz]
          simp only [Option.getD_some]
          exact ⟨fun h => h.2, fun h => ⟨by omega, h⟩⟩)
        have hki : i ≠ m := by have := HBN.out; omega
        have e1 : i * 2 ≠ m * 2 := by omega
        have e2 : i * 2 ≠ m * 2 + 1 := by omega
        have e3 : i * 2 + 1 ≠ m * 2 := by omega
        have e4 : i * 2 + 1 ≠ m * 2 + 1 := by omega
        have e5 : m * 2 ≠ i * 2 := by omega
        have e6 : m * 2 ≠ i * 2 + 1 := by omega
        have e7 : m * 2 + 1 ≠ i * 2 := by omega
        have e8 : m * 2 + 1 ≠ i * 2 + 1 := by omega
        have hfk0 := Hown.out.frozenAt (m * 2)
        have hfk1 := Hown.out.frozenAt (m * 2 + 1)
        obtain ⟨q, hqe⟩ : ∃ q, q = z.lt x := ⟨_, rfl⟩
        rw [← hqe] at G1 HCD
        clear hqe hx hz hki
        cases q
        · have hRC : R = C := by rw [HR.out]; unfold down; rw [if_neg (fun h => by have := HCD.out.1 h; cases this)]
          clear HR
          subst hRC
          go_wp2
          refine K.wp_region_ext_lit (by kernel_rfl) (by kernel_rfl) ?_
          repeat (any_goals (first | go_big_quiet_skip | quiet_step (fail) | (refine wpQuiet_step (fun K hK => ?_); go_simp; split <;> (refine hK _ ?_; clear hK K))))
          all_goals (refine wpQuiet_nil ?_; intro W9 hW9; obtain ⟨hB9, hC9, hF9, hZ9⟩ := K.ext_facts hW9; clear hW9)
          have hgl9 : g < W9.heap.size := Nat.lt_of_lt_of_le hgl hZ9
          go_wp2
          refine K.wp_region_ext_lit (by kernel_rfl) (by kernel_rfl) ?_
          repeat (any_goals (first | go_big_quiet_skip | quiet_step ((go_at_call 12; first | (with_reducible exact K.q_below (G1.out _)))) | (refine wpQuiet_step (fun K hK => ?_); go_simp; split <;> (refine hK _ ?_; clear hK K))))
          all_goals (refine wpQuiet_nil ?_; intro W8 hW8; obtain ⟨hB8, hC8, hF8, hZ8⟩ := K.ext_facts hW8; clear hW8)
          go_wp2
          go_ret
          exact ⟨rfl, Sl.own_over (Sl.own_over Hown.out hB9) hB8, K.o_bel (K.o_bel Hb.out hB9) hB8⟩
        · have HR3 := K.H.mk (show R = down f (swp C i m) m by rw [HR.out]; conv => lhs; unfold down; rw [if_pos (HCD.out.2 rfl), HKD.out])
          clear HR
          go_wp2
          refine K.wp_region_ext_lit (by kernel_rfl) (by kernel_rfl) ?_
          repeat (any_goals (first | go_big_quiet_skip | quiet_step (fail) | (refine wpQuiet_step (fun K hK => ?_); go_simp; split <;> (refine hK _ ?_; clear hK K))))
          all_goals (refine wpQuiet_nil ?_; intro W9 hW9; obtain ⟨hB9, hC9, hF9, hZ9⟩ := K.ext_facts hW9; clear hW9)
          have hgl9 : g < W9.heap.size := Nat.lt_of_lt_of_le hgl hZ9
          go_wp2
          refine K.wp_region_ext_lit (by kernel_rfl) (by kernel_rfl) ?_
          repeat (any_goals (first | go_big_quiet_skip | quiet_step ((go_at_call 12; first | (with_reducible exact K.q_below (G1.out _)))) | (refine wpQuiet_step (fun K hK => ?_); go_simp; split <;> (refine hK _ ?_; clear hK K))))
          all_goals (refine wpQuiet_nil ?_; intro W8 hW8; obtain ⟨hB8, hC8, hF8, hZ8⟩ := K.ext_facts hW8; clear hW8)
          go_wp2
          have hgl8 : g < W8.heap.size := Nat.lt_of_lt_of_le hgl9 hZ8
          have hown8 := Sl.own_over (Sl.own_over Hown.out hB9) hB8
          have hown1 : W8.drew.ownsRow base 25 2 (.slice (some ⟨g, 0, none⟩) n cap) n (C.flatMap Tm.cs) := hown8
          have HO := K.H.mk (own_put (k := m) x (own_put (k := i) z hown1))
          rw [← HSW.out] at HO
          have HG := K.H.mk (K.o_bel (K.o_bel Hb.out hB9) hB8)
          clear hown8 hown1 G1  HCD HKD HSW Hown hw0 hw1 hw2
          go_region
          all_goals go_wp2
          all_goals go_roundw
          case rel =>
            have h9 := HBN.out
            exact ⟨f, m, swp C i m, rfl, by omega, by rw [swp_len]; omega, ⟨by omega⟩, HR3, HO.out, ⟨K.o_drew (K.o_set (K.o_set (K.o_set (K.o_set HG.out _ _) _ _) _ _) _ _)⟩⟩
          case measure =>
            have h9 := HBN.out
            simp only [intOf, Int.toNat_natCast]; omega
end Go.Proofs.Ytmoaekjkihbicaa.Tm
