/- Timer: the walk of TimerDue. -/
import Derived.Test.YtmoaekjkihbicaaTm17
import Derived.Test.YtmoaekjkihbicaaTm18
import Derived.Test.YtmoaekjkihbicaaTm19
import Derived.Deep.CutRange
import Derived.Deep.RegionWith
set_option linter.unusedVariables false
namespace Go.Proofs.Ytmoaekjkihbicaa.Tm
open Go.RowKit Go.Proofs.Ytmoaekjkihbicaa
set_option linter.unusedSimpArgs false
theorem rds_drop {w : World} {A : Option Addr} {n k : Nat} {L : List Tm} (h : Sl.Rds w 2 A n (L.flatMap Tm.cs)) (hk : k ≤ n) : Sl.Rds w 2 (A.map fun x => x.add (k * 2)) (n - k) ((L.drop k).flatMap Tm.cs) := by
  have h1 := h.len
  rw [Sl.flat_len Tm.cs_len] at h1
  have hs := h.small
  refine ⟨by rw [Sl.flat_len Tm.cs_len, List.length_drop]; omega, by omega, fun h0 => ?_⟩
  obtain ⟨b, off, rfl, hb, hc⟩ := h.at_ (by omega)
  refine ⟨b, off + k * 2, by unfold Addr.add; simp, hb, fun j hj => ?_⟩
  rw [Sl.flat_len Tm.cs_len, List.length_drop] at hj
  have h6 : L.flatMap Tm.cs = (L.take k).flatMap Tm.cs ++ (L.drop k).flatMap Tm.cs := by rw [← List.flatMap_append, List.take_append_drop]
  have h7 : ((L.take k).flatMap Tm.cs).length = k * 2 := by rw [Sl.flat_len Tm.cs_len, List.length_take]; omega
  have h8 := hc (k * 2 + j) (by rw [Sl.flat_len Tm.cs_len]; omega)
  rw [h6, List.getElem?_append_right (by omega), h7, Nat.add_sub_cancel_left, ← Nat.add_assoc] at h8
  exact h8
theorem rds_zero {w : World} {A : Option Addr} {L : List Tm} (h : L.length = 0) : Sl.Rds w 2 A L.length (L.flatMap Tm.cs) := by
  obtain rfl := List.eq_nil_of_length_eq_zero h
  exact Sl.Rds.nil _ _ _
set_option maxRecDepth 100000 in
set_option maxHeartbeats 8000000 in
theorem DueLaw_c (l : List Tm) (tick : Int) (A : Option Addr) (n c : Nat) (w : World) (hr : Sl.Rds w 2 A n (l.flatMap Tm.cs)) :
    Calls Try.prog 6 #[.slice A n c, .int .i64 tick] w fun e w' => e = .returned (.bool true) ∧ Below w.heap.size w w' := by
  have GD := K.H.mk (fun (W : World) (hb : Below w.heap.size w W) => Due_c l tick A n c W (hr.below hb))
  have GO := K.H.mk (fun (W : World) (hb : Below w.heap.size w W) => Order_c l A n c W (hr.below hb))
  by_cases h : eChk l = 0
  · obtain ⟨S, hS⟩ : ∃ S, S = sortT l := ⟨_, rfl⟩
    obtain ⟨D, hD⟩ : ∃ D, D = dueL (l.length + 1) l tick := ⟨_, rfl⟩
    obtain ⟨F, M⟩ := D
    have hda := due_all (l.length + 1) l tick (by omega) (eChk_of h).2.2.2
    rw [← hD, ← hS] at hda
    simp only at hda
    obtain ⟨_, hcut, hle, hgt⟩ := hda
    have hFe : eChk F = 0 := by
      have := due_may (l := l) (tick := tick) (by unfold rDue; rw [if_pos h])
      unfold rDue at this; rw [if_pos h, ← hD] at this; exact this
    have hl := (eChk_of h).1
    have hSl : S.length = l.length := by rw [hS, sortT_len]
    rw [← hSl] at hl
    have GF := K.H.mk (fun (W : World) (A9 : Option Addr) (c9 : Nat) (hR : Sl.Rds W 2 A9 F.length (F.flatMap Tm.cs)) => Order_c F A9 F.length c9 W hR)
    have hgt2 : ∀ x ∈ sortT F, tick < x.t := fun x hx => hgt x ((sortT_perm F).mem_iff.1 hx)
    rw [show rOrd F = (0, sortT F) by unfold rOrd; rw [if_pos hFe]] at GF
    rw [show rDue l tick = (0, F, M) by unfold rDue; rw [if_pos h, ← hD]] at GD
    rw [show rOrd l = (0, S) by unfold rOrd; rw [if_pos h, ← hS]] at GO
    have hTl := sortT_len F
    generalize sortT F = T at *
    clear hr h hS hD hFe hSl hgt
    have HCUT := K.H.mk hcut
    have HLE := K.H.mk hle
    have HGT := K.H.mk hgt2
    have HSM := K.H.mk (show S.length = M.length + T.length by rw [hcut]; simp)
    have hMS : M.length ≤ S.length := by rw [HSM.out]; omega
    have hTF := K.H.mk hTl
    clear hcut hle hgt2 hTl
    go_enter Try.func6, Try.ntmps6
    go_wp2_with (first
      | (go_at_call 9; (with_reducible refine (alive_c _).mono ?_); rintro e W1 ⟨rfl, hb1⟩; obtain ⟨hB1, hC1, hF1, hZ1⟩ := K.bel_facts hb1; clear hb1)
      | (go_at_call 14; (with_reducible refine (GD.out _ (by repeat (first | (with_reducible exact Below.refl _ _) | (with_reducible refine K.b_bel ?_ (by assumption)) | (with_reducible refine K.b_alloc ?_ _) | (with_reducible refine K.b_drewN ?_ _) | (with_reducible refine K.b_drew ?_) | (with_reducible refine K.b_set ?_ (by first | omega | (simp <;> omega)) _) | (with_reducible refine K.b_only ?_ (by assumption) (by first | omega | (simp <;> omega)))))).mono ?_); rintro e W2 ⟨v2, vi2, rfl, hown2, hids2, hb2⟩; obtain ⟨A2, c2, rfl, hca2, hcm2, hR2⟩ := Sl.Rds.of_own2 hown2; obtain ⟨Ai, ci, rfl, hRi2⟩ := Sl.Rds.of_own hids2; simp only [maxLen] at hcm2; clear hown2 hids2; obtain ⟨hB2, hC2, hF2, hZ2⟩ := K.bel_facts hb2; clear hb2)
      | (go_at_call 17; first
        | (go_at_call 17; (with_reducible refine (GF.out _ _ _ (hR2.bel hB3)).mono ?_); rintro e W4 ⟨v4, rfl, hown4, hb4⟩; obtain ⟨A4, c4, rfl, hca4, hcm4, hR4⟩ := Sl.Rds.of_own2 hown4; simp only [maxLen] at hcm4; clear hown4; obtain ⟨hB4, hC4, hF4, hZ4⟩ := K.bel_facts hb4; clear hb4)
        | (go_at_call 17; (with_reducible refine (GO.out _ (by repeat (first | (with_reducible exact Below.refl _ _) | (with_reducible refine K.b_bel ?_ (by assumption)) | (with_reducible refine K.b_alloc ?_ _) | (with_reducible refine K.b_drewN ?_ _) | (with_reducible refine K.b_drew ?_) | (with_reducible refine K.b_set ?_ (by first | omega | (simp <;> omega)) _) | (with_reducible refine K.b_only ?_ (by assumption) (by first | omega | (simp <;> omega)))))).mono ?_); rintro e W3 ⟨v3, rfl, hown3, hb3⟩; obtain ⟨A3, c3, rfl, hca3, hcm3, hR3⟩ := Sl.Rds.of_own2 hown3; simp only [maxLen] at hcm3; clear hown3; obtain ⟨hB3, hC3, hF3, hZ3⟩ := K.bel_facts hb3; clear hb3))
      | (go_at_call 11; (with_reducible refine (num_c _ _).mono ?_); rintro e w' ⟨rfl, hw'⟩; have hw'2 := Eq.symm hw'; clear hw'; subst hw'2))
    refine K.wp_gen (fun W => Sl.Rds W 2 A3 S.length (S.flatMap Tm.cs) ∧ Sl.Rds W 2 A4 T.length (T.flatMap Tm.cs) ∧ Sl.Rds W 1 Ai M.length ((M.map Tm.id).flatMap enJ) ∧ Below w.heap.size w W) ⟨hR3.bel hB4, hR4, (hRi2.bel hB3).bel hB4, (by repeat (first | (with_reducible exact Below.refl _ _) | (with_reducible refine K.b_bel ?_ (by assumption)) | (with_reducible refine K.b_alloc ?_ _) | (with_reducible refine K.b_drewN ?_ _) | (with_reducible refine K.b_drew ?_) | (with_reducible refine K.b_set ?_ (by first | omega | (simp <;> omega)) _) | (with_reducible refine K.b_only ?_ (by assumption) (by first | omega | (simp <;> omega)))))⟩ ?_
    rintro WL ⟨hRS, hRT, hRM, hbL⟩
    have hbwL := hbL.size
    have HRT := K.H.mk hRT
    have HRS := K.H.mk hRS
    have HRM := K.H.mk hRM
    have HbL := K.H.mk hbL
    clear GD GO hRT hRS hRM hbL hR2 hR3 hR4 hRi2
    ((try clear hC4); (try clear hF4); (try clear hZ4); (try clear hc4); (try clear hf4); (try clear hl4); (try clear hB4); (try clear hO4); (try clear hA4); (try clear hz4_0); (try clear hz4_1); (try clear hz4_2); (try clear hz4_3); (try clear hz4_1_0); (try clear hz4_1_1); (try clear hz4_2_0); (try clear hz4_2_1); (try clear hz4_3_0); (try clear hz4_3_1); (try clear hC3); (try clear hF3); (try clear hZ3); (try clear hc3); (try clear hf3); (try clear hl3); (try clear hB3); (try clear hO3); (try clear hA3); (try clear hz3_0); (try clear hz3_1); (try clear hz3_2); (try clear hz3_3); (try clear hz3_1_0); (try clear hz3_1_1); (try clear hz3_2_0); (try clear hz3_2_1); (try clear hC2); (try clear hF2); (try clear hZ2); (try clear hc2); (try clear hf2); (try clear hl2); (try clear hB2); (try clear hO2); (try clear hA2); (try clear hz2_0); (try clear hz2_1); (try clear hz2_2); (try clear hz2_3); (try clear hz2_1_0); (try clear hz2_1_1); (try clear hC1); (try clear hF1); (try clear hZ1); (try clear hc1); (try clear hf1); (try clear hl1); (try clear hB1); (try clear hO1); (try clear hA1); (try clear hz1_0); (try clear hz1_1); (try clear hz1_2); (try clear hz1_3))
    go_loopw [12] (fun v12 wr => ∃ (k : Nat), k ≤ M.length ∧ v12 = .int .i64 k ∧ K.H (Below WL.heap.size WL wr)) (fun v12 _ => S.length - (intOf v12).toNat)
    case atStart => exact ⟨0, by omega, rfl, ⟨Below.refl _ _⟩⟩
    case round =>
      obtain ⟨k, hk, rfl, Hb⟩ := hrel
      have hsz := Hb.out.size
      obtain ⟨gq, hgq⟩ : ∃ gq, gq = decide (k < M.length) := ⟨_, rfl⟩
      go_upto_region 9 with fail
      go_cut [61] from 49 to 63 (fun v wx => v = .bool gq ∧ wx = wr)
      case first =>
        by_cases hlt : k < S.length
        · obtain ⟨x, hx⟩ : ∃ x, S[k]? = some x := ⟨_, List.getElem?_eq_getElem hlt⟩
          obtain ⟨b, off, rfl, hbl, hbc⟩ := Sl.Rds.elem HRS.out Tm.cs_len (by omega) hx
          have q_0 : wr.cell? ⟨b, off + k * 2, none⟩ = some (.int .i64 x.t) := (Hb.out.cell (p := ⟨b, off + k * 2 + 0, none⟩) hbl).trans (hbc 0 (by omega))
          have q_1 : wr.cell? ⟨b, off + k * 2 + 1, none⟩ = some (.int .i64 x.id) := (Hb.out.cell (p := ⟨b, off + k * 2 + 1, none⟩) hbl).trans (hbc 1 (by omega))
          clear hbc
          have hbw : b < wr.heap.size := Nat.lt_of_lt_of_le hbl hsz
          have hkl : decide ((k : Int) < (S.length : Int)) = true := decide_eq_true (by omega)
          have hkln : decide (k < S.length) = true := decide_eq_true hlt
          have hkl2 : (k : Int) < (S.length : Int) := by omega
          have hv : decide (x.t ≤ tick) = gq := by
            rw [hgq]
            rw [HCUT.out] at hx
            by_cases h2 : k < M.length
            · rw [List.getElem?_append_left h2] at hx
              rw [decide_eq_true h2, decide_eq_true (HLE.out x (List.mem_of_getElem? hx))]
            · rw [List.getElem?_append_right (by omega)] at hx
              have := HGT.out x (List.mem_of_getElem? hx)
              rw [decide_eq_false h2, decide_eq_false (by omega)]
          clear hx hgq hlt
          go_wp2_with fail
          go_meet
          exact ⟨rfl, rfl⟩
        · have hkl : decide ((k : Int) < (S.length : Int)) = false := decide_eq_false (by omega)
          have hkln : decide (k < S.length) = false := decide_eq_false hlt
          have hg : gq = false := by rw [hgq]; exact decide_eq_false (by omega)
          subst hg
          clear hgq hlt
          go_wp2_with fail
          go_meet
          exact ⟨rfl, rfl⟩
      case rest =>
      obtain ⟨rfl, rfl⟩ := hcut
      cases gq
      · have hkM : k = M.length := by have := of_decide_eq_false hgq.symm; omega
        subst hkM
        clear hgq hk
        have hRSr := HRS.out.below Hb.out
        have hRTr := HRT.out.below Hb.out
        have hMe : ((M.length : Int) != (M.length : Int)) = false := by simp
        have hMi : (M.length : Int) ≤ (S.length : Int) := by omega
        have hMi0 : (0 : Int) ≤ (M.length : Int) := by omega
        have hMc : (M.length : Int) ≤ (c3 : Int) := by omega
        have hMcn : M.length ≤ c3 := by omega
        have hST : S.length - M.length = T.length := by have := HSM.out; omega
        have hDr := rds_drop hRSr hMS
        rw [hST, show S.drop M.length = T by rw [HCUT.out, List.drop_left]] at hDr
        have HZ := K.H.mk (fun (h : c3 = M.length) => (show T = [] from List.eq_nil_of_length_eq_zero (by have := HSM.out; omega)))
        have HRSr := K.H.mk hRSr
        have GS := K.H.mk (fun (W : World) (A7 A8 : Option Addr) (c7 c8 : Nat) (h7 : Sl.Rds W 2 A7 T.length (T.flatMap Tm.cs)) (h8 : Sl.Rds W 2 A8 T.length (T.flatMap Tm.cs)) => sameTm_c T T A7 A8 T.length T.length c7 c8 W h7 h8)
        rw [decide_eq_true rfl] at GS
        have HRMr := K.H.mk (HRM.out.below Hb.out)
        have HbW := K.H.mk (HbL.out.trans (Hb.out.mono hbwL))
        clear hRSr
        go_wp2_with (first
          | (go_at_call 11; (with_reducible refine (num_c _ _).mono ?_); rintro e w' ⟨rfl, hw'⟩; have hw'2 := Eq.symm hw'; clear hw'; subst hw'2)
          | (go_at_call 18; first
            | (go_at_call 18; (with_reducible refine (GS.out _ _ _ _ _ hRTr hDr).mono ?_); rintro e W8 ⟨rfl, hb8⟩; obtain ⟨hB8, hC8, hF8, hZ8⟩ := K.bel_facts hb8; clear hb8)
            | (go_at_call 18; (with_reducible refine (GS.out _ _ _ _ _ hRTr (rds_zero (by have := HSM.out; omega))).mono ?_); rintro e W8 ⟨rfl, hb8⟩; obtain ⟨hB8, hC8, hF8, hZ8⟩ := K.bel_facts hb8; clear hb8)))
        all_goals
          have HbX := K.H.mk (Hb.out.trans (hB8.out.mono hsz))
          ((try clear hC8); (try clear hF8); (try clear hZ8); (try clear hc8); (try clear hf8); (try clear hl8); (try clear hB8); (try clear hO8); (try clear hA8); (try clear hz8_0); (try clear hz8_1); (try clear hz8_2); (try clear hz8_3); (try clear hz8_1_0); (try clear hz8_1_1); (try clear hz8_2_0); (try clear hz8_2_1); (try clear hz8_3_0); (try clear hz8_3_1); (try clear hz8_4_0); (try clear hz8_4_1); (try clear hz8_5_0); (try clear hz8_5_1); (try clear hz8_6_0); (try clear hz8_6_1); (try clear hz8_7_0); (try clear hz8_7_1))
          clear hDr hRTr hST hMc hMcn hMi hMi0 hMe
          (try generalize Option.map (fun x : Addr => x.add (M.length * 2)) A3 = AD at *)
          go_loopw [13] (fun v13 wr => ∃ (j : Nat), j ≤ M.length ∧ v13 = .int .i64 j ∧ K.H (Below WL.heap.size WL wr)) (fun v13 _ => M.length - (intOf v13).toNat)
          case atStart => exact ⟨0, by omega, rfl, HbX⟩
          case round =>
            clear HbX
            obtain ⟨j, hj, rfl, Hbj⟩ := hrel
            have hszj := Hbj.out.size
            by_cases hlj : j < M.length
            · obtain ⟨x, hx⟩ : ∃ x, M[j]? = some x := ⟨_, List.getElem?_eq_getElem hlj⟩
              have hxS : S[j]? = some x := by rw [HCUT.out, List.getElem?_append_left hlj]; exact hx
              have hxI : (M.map Tm.id)[j]? = some x.id := by simp [hx]
              obtain ⟨b, off, rfl, hbl, hbc⟩ := Sl.Rds.elem HRS.out Tm.cs_len (by omega) hxS
              have q_0 : wr.cell? ⟨b, off + j * 2, none⟩ = some (.int .i64 x.t) := (Hbj.out.cell (p := ⟨b, off + j * 2 + 0, none⟩) hbl).trans (hbc 0 (by omega))
              have q_1 : wr.cell? ⟨b, off + j * 2 + 1, none⟩ = some (.int .i64 x.id) := (Hbj.out.cell (p := ⟨b, off + j * 2 + 1, none⟩) hbl).trans (hbc 1 (by omega))
              clear hbc
              obtain ⟨b5, off5, rfl, hbl5, hbc5⟩ := Sl.Rds.elem HRM.out (enc := fun n => [.int .i64 n]) (fun _ => rfl) (by omega) hxI
              have q5_0 : wr.cell? ⟨b5, off5 + j, none⟩ = some (.int .i64 x.id) := by
                have := (Hbj.out.cell (p := ⟨b5, off5 + j * 1 + 0, none⟩) hbl5).trans (hbc5 0 (by omega))
                simpa using this
              have hbw : b < wr.heap.size := Nat.lt_of_lt_of_le hbl hszj
              have hbw5 : b5 < wr.heap.size := Nat.lt_of_lt_of_le hbl5 hszj
              have hjM : (j : Int) < (M.length : Int) := by omega
              have hjS : (j : Int) < (S.length : Int) := by omega
              have hne : (x.id != x.id) = false := by simp
              clear hx hxS hxI hbc5
              go_wp2
              refine K.wp_region_ext_lit (by kernel_rfl) (by kernel_rfl) ?_
              repeat (any_goals (first | go_big_quiet_skip | quiet_step (fail) | (refine wpQuiet_step (fun K hK => ?_); go_simp; split <;> (refine hK _ ?_; clear hK K))))
              all_goals (refine wpQuiet_nil ?_; intro W9 hW9; obtain ⟨hB9, hC9, hF9, hZ9⟩ := K.ext_facts hW9; clear hW9)
              all_goals go_wp2
              go_roundw
              case rel => exact ⟨j + 1, by omega, by go_num, ⟨Hbj.out.trans (hB9.out.mono hszj)⟩⟩
              case measure => simp [intOf]; omega
            · obtain rfl : j = M.length := by omega
              have HbF := K.H.mk (HbL.out.trans (Hbj.out.mono hbwL))
              go_wp2
              go_ret
              exact ⟨rfl, (by repeat (first | (with_reducible exact Below.refl _ _) | (with_reducible exact HbF.out) | (with_reducible refine K.b_bel ?_ (by assumption)) | (with_reducible refine K.b_alloc ?_ _) | (with_reducible refine K.b_drewN ?_ _) | (with_reducible refine K.b_drew ?_) | (with_reducible refine K.b_set ?_ (by first | omega | (simp <;> omega)) _) | (with_reducible refine K.b_only ?_ (by assumption) (by first | omega | (simp <;> omega)))))⟩
      · have hkM : k < M.length := of_decide_eq_true hgq.symm
        go_wp2
        go_roundw
        case rel => exact ⟨k + 1, by omega, by go_num, Hb⟩
        case measure => simp [intOf]; omega
  · have hd : (eChk l != 0) = true := by simpa using h
    rw [show rDue l tick = (eChk l, [], []) by unfold rDue; rw [if_neg h]] at GD
    rw [show rOrd l = (eChk l, []) by unfold rOrd; rw [if_neg h]] at GO
    generalize eChk l = er at *
    clear hr h
    have hee : (er == er) = true := by simp
    go_enter Try.func6, Try.ntmps6
    go_wp2_with (first
      | (go_at_call 9; (with_reducible refine (alive_c _).mono ?_); rintro e W1 ⟨rfl, hb1⟩; obtain ⟨hB1, hC1, hF1, hZ1⟩ := K.bel_facts hb1; clear hb1)
      | (go_at_call 14; (with_reducible refine (GD.out _ (by repeat (first | (with_reducible exact Below.refl _ _) | (with_reducible refine K.b_bel ?_ (by assumption)) | (with_reducible refine K.b_alloc ?_ _) | (with_reducible refine K.b_drewN ?_ _) | (with_reducible refine K.b_drew ?_) | (with_reducible refine K.b_set ?_ (by first | omega | (simp <;> omega)) _) | (with_reducible refine K.b_only ?_ (by assumption) (by first | omega | (simp <;> omega)))))).mono ?_); rintro e W2 ⟨v2, vi2, rfl, hown2, hids2, hb2⟩; obtain ⟨A2, c2, rfl, hca2, hcm2, hR2⟩ := Sl.Rds.of_own2 hown2; obtain ⟨Ai, ci, rfl, hRi2⟩ := Sl.Rds.of_own hids2; simp only [maxLen] at hcm2; clear hown2 hids2; obtain ⟨hB2, hC2, hF2, hZ2⟩ := K.bel_facts hb2; clear hb2)
      | (go_at_call 17; (with_reducible refine (GO.out _ (by repeat (first | (with_reducible exact Below.refl _ _) | (with_reducible refine K.b_bel ?_ (by assumption)) | (with_reducible refine K.b_alloc ?_ _) | (with_reducible refine K.b_drewN ?_ _) | (with_reducible refine K.b_drew ?_) | (with_reducible refine K.b_set ?_ (by first | omega | (simp <;> omega)) _) | (with_reducible refine K.b_only ?_ (by assumption) (by first | omega | (simp <;> omega)))))).mono ?_); rintro e W3 ⟨v3, rfl, hown3, hb3⟩; obtain ⟨A3, c3, rfl, hca3, hcm3, hR3⟩ := Sl.Rds.of_own2 hown3; simp only [maxLen] at hcm3; clear hown3; obtain ⟨hB3, hC3, hF3, hZ3⟩ := K.bel_facts hb3; clear hb3)
      | (go_at_call 11; (with_reducible refine (num_c _ _).mono ?_); rintro e w' ⟨rfl, hw'⟩; have hw'2 := Eq.symm hw'; clear hw'; subst hw'2))
    go_ret
    exact ⟨rfl, (by repeat (first | (with_reducible exact Below.refl _ _) | (with_reducible refine K.b_bel ?_ (by assumption)) | (with_reducible refine K.b_alloc ?_ _) | (with_reducible refine K.b_drewN ?_ _) | (with_reducible refine K.b_drew ?_) | (with_reducible refine K.b_set ?_ (by first | omega | (simp <;> omega)) _) | (with_reducible refine K.b_only ?_ (by assumption) (by first | omega | (simp <;> omega)))))⟩
end Go.Proofs.Ytmoaekjkihbicaa.Tm
