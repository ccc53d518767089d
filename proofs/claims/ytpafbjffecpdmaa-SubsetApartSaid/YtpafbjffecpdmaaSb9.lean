/- SubsetApart: the walk. -/
import Derived.Test.YtpafbjffecpdmaaSb8
set_option linter.unusedVariables false
namespace Go.Proofs.Ytpafbjffecpdmaa.Sb
open Go.RowKit Go.Proofs.Ytpafbjffecpdmaa
attribute [local go_sem] K.max2_int K.min2_int K.max_two K.min_two K.max_three K.min_three
set_option linter.unusedSimpArgs false
set_option maxRecDepth 100000 in
set_option maxHeartbeats 8000000 in
theorem Apart_c (ids : List Int) (a b size : Int) (seed : Nat) (A : Option Addr) (n c : Nat) (w : World) (hr : Sl.Rds w 1 A n (ids.flatMap fun n => [.int .i64 n])) (hs : seed < 18446744073709551616) :
    Calls Try.prog 4 #[.slice A n c, .int .i64 a, .int .i64 b, .int .i64 size, .int .u64 seed] w fun e w' => e = .returned (.bool true) ∧ Below w.heap.size w w' := by
  obtain rfl := hr.length (fun _ => rfl) (by omega)
  have hle := hr.le
  have GO := K.H.mk (fun (W : World) (hb : Below w.heap.size w W) => Of_c ids a size seed A ids.length c W (hr.below hb) hs)
  have GP := K.H.mk (fun (W : World) (hb : Below w.heap.size w W) => Of_c ids b size seed A ids.length c W (hr.below hb) hs)
  have GR := K.H.mk (fun (W : World) => Round_c ids.length a size W)
  have GT := K.H.mk (fun (W : World) => Round_c ids.length b size W)
  have HL := K.H.mk (show ofE ids a size ≠ 0 → oOf ids a size seed = [] from fun h => by unfold oOf; rw [if_neg h])
  have HM := K.H.mk (show ofE ids a size = 0 → ofE ids b size = 0 → ¬ (ids.length : Int) ≤ size → a ≠ b → (rnd ids.length a size).1 = (rnd ids.length b size).1 → ∀ x ∈ oOf ids a size seed, x ∉ oOf ids b size seed from fun h1 h2 h3 h4 h5 => by
    unfold oOf; rw [if_pos h1, if_pos h2]; exact ofL_apart h1 h2 h3 h4 h5)
  have hL32 : (oOf ids a size seed).length ≤ 32 := by
    by_cases h : ofE ids a size = 0
    · unfold oOf; rw [if_pos h]; exact ofL_len h (ofE_ok h).1
    · rw [HL.out h]; simp
  generalize oOf ids a size seed = L at *
  generalize oOf ids b size seed = M at *
  generalize ofE ids a size = e1 at *
  generalize ofE ids b size = e2 at *
  generalize (rnd ids.length a size).1 = r1 at *
  generalize (rnd ids.length b size).1 = r2 at *
  generalize (rnd ids.length a size).2.1 = q1 at *
  generalize (rnd ids.length b size).2.1 = q2 at *
  generalize (rnd ids.length a size).2.2 = t1 at *
  generalize (rnd ids.length b size).2.2 = t2 at *
  clear hr
  by_cases hb : e1 ≠ 0 ∨ e2 ≠ 0 ∨ (ids.length : Int) ≤ size ∨ a = b
  · have hfin : e1 = 0 ∨ (e1 ≠ 0 ∧ L.length = 0) := by
      by_cases h : e1 = 0
      · exact .inl h
      · exact .inr ⟨h, by rw [HL.out h]; rfl⟩
    have HB := K.H.mk hb
    have HFin := K.H.mk hfin
    clear hb hfin HM HL GR GT
    go_enter Try.func4, Try.ntmps4
    go_wp2_with (first
      | (go_at_call 9; (with_reducible refine (alive_c _).mono ?_); rintro e W1 ⟨rfl, hb1⟩; obtain ⟨hB1, hC1, hF1, hZ1⟩ := K.bel_facts hb1; clear hb1)
      | (go_at_call 10; first
        | ((with_reducible refine (GO.out _ (by repeat (first | (with_reducible exact Below.refl _ _) | (with_reducible refine K.b_bel ?_ (by assumption)) | (with_reducible refine K.b_alloc ?_ _) | (with_reducible refine K.b_drewN ?_ _) | (with_reducible refine K.b_drew ?_) | (with_reducible refine K.b_set ?_ (by first | omega | (simp <;> omega)) _) | (with_reducible refine K.b_only ?_ (by assumption) (by first | omega | (simp <;> omega)))))).mono ?_); rintro e W3 ⟨v3, rfl, hown3, hb3⟩; obtain ⟨hB3, hC3, hF3, hZ3⟩ := K.bel_facts hb3; clear hb3; obtain ⟨A3, c3, rfl, hR3⟩ := Sl.Rds.of_own hown3; clear hown3)
        | ((with_reducible refine (GP.out _ (by repeat (first | (with_reducible exact Below.refl _ _) | (with_reducible refine K.b_bel ?_ (by assumption)) | (with_reducible refine K.b_alloc ?_ _) | (with_reducible refine K.b_drewN ?_ _) | (with_reducible refine K.b_drew ?_) | (with_reducible refine K.b_set ?_ (by first | omega | (simp <;> omega)) _) | (with_reducible refine K.b_only ?_ (by assumption) (by first | omega | (simp <;> omega)))))).mono ?_); rintro e W4 ⟨v4, rfl, hown4, hb4⟩; obtain ⟨hB4, hC4, hF4, hZ4⟩ := K.bel_facts hb4; clear hb4; obtain ⟨A4, c4, rfl, hR4⟩ := Sl.Rds.of_own hown4; clear hown4))
      | (go_at_call 11; (with_reducible refine (num_c _ _).mono ?_); rintro e w' ⟨rfl, hw'⟩; have hw'2 := Eq.symm hw'; clear hw'; subst hw'2))
    all_goals first
      | (go_ret; exact ⟨rfl, (by repeat (first | (with_reducible exact Below.refl _ _) | (with_reducible refine K.b_bel ?_ (by assumption)) | (with_reducible refine K.b_alloc ?_ _) | (with_reducible refine K.b_drewN ?_ _) | (with_reducible refine K.b_drew ?_) | (with_reducible refine K.b_set ?_ (by first | omega | (simp <;> omega)) _) | (with_reducible refine K.b_only ?_ (by assumption) (by first | omega | (simp <;> omega)))))⟩)
      | (exfalso; have hb := HB.out; have hf := HFin.out; clear HB HFin GO GP; go_light; (try simp only [decide_eq_true_eq, decide_eq_false_iff_not, bne_iff_ne, bne_eq_false_iff_eq, beq_iff_eq, beq_eq_false_iff_ne, ne_eq] at *); omega)
      | (have hf := HFin.out; go_ret; refine ⟨K.ret_bool ?_, (by repeat (first | (with_reducible exact Below.refl _ _) | (with_reducible refine K.b_bel ?_ (by assumption)) | (with_reducible refine K.b_alloc ?_ _) | (with_reducible refine K.b_drewN ?_ _) | (with_reducible refine K.b_drew ?_) | (with_reducible refine K.b_set ?_ (by first | omega | (simp <;> omega)) _) | (with_reducible refine K.b_only ?_ (by assumption) (by first | omega | (simp <;> omega)))))⟩; clear HB HFin GO GP; go_light; (try simp only [decide_eq_true_eq, decide_eq_false_iff_not, bne_iff_ne, bne_eq_false_iff_eq, beq_iff_eq, beq_eq_false_iff_ne, ne_eq] at *); first | (simp; omega) | (rcases hf with hf | hf <;> simp_all))
  · obtain ⟨hb1, hb2, hb3, hb4⟩ : e1 = 0 ∧ e2 = 0 ∧ ¬ (ids.length : Int) ≤ size ∧ a ≠ b := by omega
    have HN := K.H.mk (HM.out hb1 hb2 hb3 hb4)
    subst hb1 hb2
    have d1 : decide ((ids.length : Int) ≤ size) = false := decide_eq_false hb3
    have d2 : (a == b) = false := by simpa using hb4
    clear hb hb3 hb4 HM HL
    go_enter Try.func4, Try.ntmps4
    go_wp2_with (first
      | (go_at_call 9; (with_reducible refine (alive_c _).mono ?_); rintro e W1 ⟨rfl, hb1⟩; obtain ⟨hB1, hC1, hF1, hZ1⟩ := K.bel_facts hb1; clear hb1)
      | (go_at_call 10; first
        | ((with_reducible refine (GO.out _ (by repeat (first | (with_reducible exact Below.refl _ _) | (with_reducible refine K.b_bel ?_ (by assumption)) | (with_reducible refine K.b_alloc ?_ _) | (with_reducible refine K.b_drewN ?_ _) | (with_reducible refine K.b_drew ?_) | (with_reducible refine K.b_set ?_ (by first | omega | (simp <;> omega)) _) | (with_reducible refine K.b_only ?_ (by assumption) (by first | omega | (simp <;> omega)))))).mono ?_); rintro e W3 ⟨v3, rfl, hown3, hb3⟩; obtain ⟨hB3, hC3, hF3, hZ3⟩ := K.bel_facts hb3; clear hb3; obtain ⟨A3, c3, rfl, hR3⟩ := Sl.Rds.of_own hown3; rw [← flat_iv] at hR3; clear hown3)
        | ((with_reducible refine (GP.out _ (by repeat (first | (with_reducible exact Below.refl _ _) | (with_reducible refine K.b_bel ?_ (by assumption)) | (with_reducible refine K.b_alloc ?_ _) | (with_reducible refine K.b_drewN ?_ _) | (with_reducible refine K.b_drew ?_) | (with_reducible refine K.b_set ?_ (by first | omega | (simp <;> omega)) _) | (with_reducible refine K.b_only ?_ (by assumption) (by first | omega | (simp <;> omega)))))).mono ?_); rintro e W4 ⟨v4, rfl, hown4, hb4⟩; obtain ⟨hB4, hC4, hF4, hZ4⟩ := K.bel_facts hb4; clear hb4; obtain ⟨A4, c4, rfl, hR4⟩ := Sl.Rds.of_own hown4; rw [← flat_iv] at hR4; clear hown4))
      | (go_at_call 13; first | (go_at_call 13; (with_reducible refine (GR.out _).mono ?_); rintro e W5 ⟨rfl, hb5⟩; obtain ⟨hB5, hC5, hF5, hZ5⟩ := K.bel_facts hb5; clear hb5) | (go_at_call 13; (with_reducible refine (GT.out _).mono ?_); rintro e W6 ⟨rfl, hb6⟩; obtain ⟨hB6, hC6, hF6, hZ6⟩ := K.bel_facts hb6; clear hb6))
      | (go_at_call 11; (with_reducible refine (num_c _ _).mono ?_); rintro e w' ⟨rfl, hw'⟩; have hw'2 := Eq.symm hw'; clear hw'; subst hw'2))
    have HR3 := K.H.mk (show Sl.Rds W6 1 A3 L.length (L.flatMap fun n => [.int .i64 n]) from (by repeat (first | (with_reducible exact hR3) | (with_reducible refine Sl.Rds.bel ?_ hB4) | (with_reducible refine Sl.Rds.bel ?_ hB5) | (with_reducible refine Sl.Rds.bel ?_ hB6) | (with_reducible refine rds_alloc ?_ _))))
    have HR4 := K.H.mk (show Sl.Rds W6 1 A4 M.length (M.flatMap fun n => [.int .i64 n]) from (by repeat (first | (with_reducible exact hR4) | (with_reducible refine Sl.Rds.bel ?_ hB5) | (with_reducible refine Sl.Rds.bel ?_ hB6) | (with_reducible refine rds_alloc ?_ _))))
    have Hb6 := K.H.mk (show Below w.heap.size w W6 from (by repeat (first | (with_reducible exact Below.refl _ _) | (with_reducible refine K.b_bel ?_ (by assumption)) | (with_reducible refine K.b_alloc ?_ _) | (with_reducible refine K.b_drewN ?_ _) | (with_reducible refine K.b_drew ?_) | (with_reducible refine K.b_set ?_ (by first | omega | (simp <;> omega)) _) | (with_reducible refine K.b_only ?_ (by assumption) (by first | omega | (simp <;> omega))))))
    clear hR3 hR4 GO GP GR GT d1 d2
    ((try clear hC6); (try clear hF6); (try clear hZ6); (try clear hc6); (try clear hf6); (try clear hl6); (try clear hB6); (try clear hO6); (try clear hA6); (try clear hz6_0); (try clear hz6_1); (try clear hz6_2); (try clear hz6_3); (try clear hz6_1_0); (try clear hz6_1_1); (try clear hz6_2_0); (try clear hz6_2_1); (try clear hz6_3_0); (try clear hz6_3_1); (try clear hz6_4_0); (try clear hz6_4_1); (try clear hz6_5_0); (try clear hz6_5_1); (try clear hC5); (try clear hF5); (try clear hZ5); (try clear hc5); (try clear hf5); (try clear hl5); (try clear hB5); (try clear hO5); (try clear hA5); (try clear hz5_0); (try clear hz5_1); (try clear hz5_2); (try clear hz5_3); (try clear hz5_1_0); (try clear hz5_1_1); (try clear hz5_2_0); (try clear hz5_2_1); (try clear hz5_3_0); (try clear hz5_3_1); (try clear hz5_4_0); (try clear hz5_4_1); (try clear hC4); (try clear hF4); (try clear hZ4); (try clear hc4); (try clear hf4); (try clear hl4); (try clear hB4); (try clear hO4); (try clear hA4); (try clear hz4_0); (try clear hz4_1); (try clear hz4_2); (try clear hz4_3); (try clear hz4_1_0); (try clear hz4_1_1); (try clear hz4_2_0); (try clear hz4_2_1); (try clear hz4_3_0); (try clear hz4_3_1); (try clear hC3); (try clear hF3); (try clear hZ3); (try clear hc3); (try clear hf3); (try clear hl3); (try clear hB3); (try clear hO3); (try clear hA3); (try clear hz3_0); (try clear hz3_1); (try clear hz3_2); (try clear hz3_3); (try clear hz3_1_0); (try clear hz3_1_1); (try clear hz3_2_0); (try clear hz3_2_1); (try clear hC2); (try clear hF2); (try clear hZ2); (try clear hc2); (try clear hf2); (try clear hl2); (try clear hB2); (try clear hO2); (try clear hA2); (try clear hz2_0); (try clear hz2_1); (try clear hz2_2); (try clear hz2_3); (try clear hz2_1_0); (try clear hz2_1_1); (try clear hC1); (try clear hF1); (try clear hZ1); (try clear hc1); (try clear hf1); (try clear hl1); (try clear hB1); (try clear hO1); (try clear hA1); (try clear hz1_0); (try clear hz1_1); (try clear hz1_2); (try clear hz1_3))
    go_loopw [21] (fun i wr => ∃ k : Nat, k ≤ L.length ∧ i = .int .i64 k ∧ K.H (Below W6.heap.size W6 wr)) (fun i _ => L.length - (intOf i).toNat)
    case atStart => exact ⟨0, by omega, rfl, ⟨Below.refl _ _⟩⟩
    case round =>
      obtain ⟨k, hk, rfl, Hb⟩ := hrel
      have Hw := K.H.mk (Hb6.out.trans (Hb.out.mono Hb6.out.size))
      by_cases hlt : k < L.length
      · obtain ⟨x, hx⟩ : ∃ x, L[k]? = some x := ⟨_, List.getElem?_eq_getElem hlt⟩
        have hkl : (k : Int) < L.length := by omega
        by_cases hrr : r1 = r2
        · have hno : hasB M x = false := hasB_f.2 (HN.out hrr x (List.mem_of_getElem? hx))
          have GX := K.H.mk (has_c M x A4 M.length c4 wr (HR4.out.below Hb.out))
          rw [hno] at GX
          have d3 : (r1 == r2) = true := by simpa using hrr
          obtain ⟨b7, off7, rfl, hbl7, hbc7⟩ := Sl.Rds.elem HR3.out (enc := fun n => [.int .i64 n]) (fun _ => rfl) (by omega) hx
          have q7_0 : wr.cell? ⟨b7, off7 + k, none⟩ = some (.int .i64 x) := by
            have := (Hb.out.cell (p := ⟨b7, off7 + k * 1 + 0, none⟩) hbl7).trans (hbc7 0 (by omega))
            simpa using this
          have hbw : b7 < wr.heap.size := Nat.lt_of_lt_of_le hbl7 Hb.out.size
          clear hx hbc7 hrr
          go_wp2_with (first | (go_at_call 12; (with_reducible refine (GX.out).mono ?_); rintro e w' ⟨rfl, hw'⟩; have hw'2 := Eq.symm hw'; clear hw'; subst hw'2))
          go_roundw
          case rel => exact ⟨k + 1, by omega, by go_num, ⟨(by repeat (first | (with_reducible exact Below.refl _ _) | (with_reducible exact Hb.out) | (with_reducible refine K.b_bel ?_ (by assumption)) | (with_reducible refine K.b_alloc ?_ _) | (with_reducible refine K.b_drewN ?_ _) | (with_reducible refine K.b_drew ?_) | (with_reducible refine K.b_set ?_ (by first | omega | (simp <;> omega)) _) | (with_reducible refine K.b_only ?_ (by assumption) (by first | omega | (simp <;> omega)))))⟩⟩
          case measure => simp [intOf]; omega
        · have d3 : (r1 == r2) = false := by simpa using hrr
          clear hrr
          go_wp2
          go_ret
          exact ⟨rfl, Hw.out⟩
      · obtain rfl : k = L.length := by omega
        go_wp2
        go_ret
        exact ⟨rfl, Hw.out⟩
theorem ApartI (ids : List Int) (a b size seed : Int) (A : Option Addr) (n c : Nat) (w : World) (hr : Sl.Rds w 1 A n (ids.flatMap fun n => [.int .i64 n])) (hs : (Lit.int .u64 seed).wf = true) :
    Calls Try.prog 4 #[.slice A n c, .int .i64 a, .int .i64 b, .int .i64 size, .int .u64 seed] w fun e w' => e = .returned (.bool true) ∧ Below w.heap.size w w' := by
  obtain ⟨h0, h1⟩ := u64_wf hs
  obtain ⟨s, rfl⟩ := Int.eq_ofNat_of_zero_le h0
  exact Apart_c ids a b size s A n c w hr (by omega)
end Go.Proofs.Ytpafbjffecpdmaa.Sb
