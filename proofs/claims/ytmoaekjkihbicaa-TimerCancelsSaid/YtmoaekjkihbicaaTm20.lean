/- Timer: the walk of TimerCancels. -/
import Derived.Test.YtmoaekjkihbicaaTm17
import Derived.Test.YtmoaekjkihbicaaTm18
import Derived.Test.YtmoaekjkihbicaaTm19
set_option linter.unusedVariables false
namespace Go.Proofs.Ytmoaekjkihbicaa.Tm
open Go.RowKit Go.Proofs.Ytmoaekjkihbicaa
set_option linter.unusedSimpArgs false
theorem hasI_snoc (L : List Int) (y v : Int) : hasI (L ++ [y]) v = (hasI L v || (y == v)) := by
  unfold hasI Sl.anyOf
  rw [List.any_append]
  simp [Bool.beq_comm]
def isOff (ids : List Int) (t : Tm) : Bool := !hasI ids t.id
theorem can_sort {l : List Tm} (ids : List Int) : sortT (canF [] l ids) = (sortT l).filter (isOff ids) := by
  have h2 := (can_all l [] ids heap_nil).2
  rw [List.nil_append] at h2
  exact (sortT_congr h2.symm).trans (sortT_filter l _)
theorem filt_take {L : List Tm} {p : Tm → Bool} {k : Nat} {x : Tm} (h : L[k]? = some x) : (L.take (k + 1)).filter p = (L.take k).filter p ++ (if p x = true then [x] else []) := by
  rw [List.take_add_one, h, List.filter_append]
  congr 1
  simp [List.filter_cons]
set_option maxRecDepth 100000 in
set_option maxHeartbeats 8000000 in
theorem CancelsLaw_c (l : List Tm) (ids : List Int) (A Ai : Option Addr) (n c n2 ci : Nat) (w : World) (hr : Sl.Rds w 2 A n (l.flatMap Tm.cs)) (hr2 : Sl.Rds w 1 Ai n2 (ids.flatMap enJ)) :
    Calls Try.prog 5 #[.slice A n c, .slice Ai n2 ci] w fun e w' => e = .returned (.bool true) ∧ Below w.heap.size w w' := by
  obtain rfl := hr2.length (fun _ => rfl) (by omega)
  have hle2 := hr2.le
  have GN := K.H.mk (fun (W : World) (hb : Below w.heap.size w W) => Cancel_c l ids A Ai n c ids.length ci W (hr.below hb) (hr2.below hb))
  have GO := K.H.mk (fun (W : World) (hb : Below w.heap.size w W) => Order_c l A n c W (hr.below hb))
  by_cases h : eChk l = 0
  · obtain ⟨S, hS⟩ : ∃ S, S = sortT l := ⟨_, rfl⟩
    obtain ⟨F, hF⟩ : ∃ F, F = canF [] l ids := ⟨_, rfl⟩
    have hFe : eChk F = 0 := by
      have := can_may (l := l) (ids := ids) (by unfold rCan; rw [if_pos h])
      unfold rCan at this; rw [if_pos h, ← hF] at this; exact this
    have hl := (eChk_of h).1
    have hSl : S.length = l.length := by rw [hS, sortT_len]
    have HE := K.H.mk (show sortT F = S.filter (isOff ids) by rw [hF, hS]; exact can_sort ids)
    have HFL := K.H.mk (show F.length = (S.filter (isOff ids)).length by rw [← HE.out, sortT_len])
    have GF := K.H.mk (fun (W : World) (A9 : Option Addr) (c9 : Nat) (hR : Sl.Rds W 2 A9 F.length (F.flatMap Tm.cs)) => Order_c F A9 F.length c9 W hR)
    rw [show rOrd F = (0, S.filter (isOff ids)) by unfold rOrd; rw [if_pos hFe, HE.out]] at GF
    rw [show rCan l ids = (0, F, (l.length : Int) - (F.length : Int)) by unfold rCan; rw [if_pos h, ← hF]] at GN
    rw [show rOrd l = (0, S) by unfold rOrd; rw [if_pos h, ← hS]] at GO
    rw [← hSl] at GN hl
    have Hr2 := K.H.mk hr2
    clear hr hr2 h hS hF hFe hSl
    go_enter Try.func5, Try.ntmps5
    go_wp2_with (first
      | (go_at_call 9; (with_reducible refine (alive_c _).mono ?_); rintro e W1 ⟨rfl, hb1⟩; obtain ⟨hB1, hC1, hF1, hZ1⟩ := K.bel_facts hb1; clear hb1)
      | (go_at_call 15; (with_reducible refine (GN.out _ (by repeat (first | (with_reducible exact Below.refl _ _) | (with_reducible refine K.b_bel ?_ (by assumption)) | (with_reducible refine K.b_alloc ?_ _) | (with_reducible refine K.b_drewN ?_ _) | (with_reducible refine K.b_drew ?_) | (with_reducible refine K.b_set ?_ (by first | omega | (simp <;> omega)) _) | (with_reducible refine K.b_only ?_ (by assumption) (by first | omega | (simp <;> omega)))))).mono ?_); rintro e W2 ⟨v2, rfl, hown2, hb2⟩; obtain ⟨A2, c2, rfl, hca2, hcm2, hR2⟩ := Sl.Rds.of_own2 hown2; simp only [maxLen] at hcm2; clear hown2; obtain ⟨hB2, hC2, hF2, hZ2⟩ := K.bel_facts hb2; clear hb2)
      | (go_at_call 17; (with_reducible refine (GO.out _ (by repeat (first | (with_reducible exact Below.refl _ _) | (with_reducible refine K.b_bel ?_ (by assumption)) | (with_reducible refine K.b_alloc ?_ _) | (with_reducible refine K.b_drewN ?_ _) | (with_reducible refine K.b_drew ?_) | (with_reducible refine K.b_set ?_ (by first | omega | (simp <;> omega)) _) | (with_reducible refine K.b_only ?_ (by assumption) (by first | omega | (simp <;> omega)))))).mono ?_); rintro e W3 ⟨v3, rfl, hown3, hb3⟩; obtain ⟨A3, c3, rfl, hca3, hcm3, hR3⟩ := Sl.Rds.of_own2 hown3; simp only [maxLen] at hcm3; clear hown3; obtain ⟨hB3, hC3, hF3, hZ3⟩ := K.bel_facts hb3; clear hb3)
      | (go_at_call 11; (with_reducible refine (num_c _ _).mono ?_); rintro e w' ⟨rfl, hw'⟩; have hw'2 := Eq.symm hw'; clear hw'; subst hw'2))
    refine K.wp_gen (fun W => Sl.Rds W 2 A3 S.length (S.flatMap Tm.cs) ∧ Sl.Rds W 2 A2 F.length (F.flatMap Tm.cs) ∧ Below w.heap.size w W) ⟨hR3, hR2.bel hB3, (by repeat (first | (with_reducible exact Below.refl _ _) | (with_reducible refine K.b_bel ?_ (by assumption)) | (with_reducible refine K.b_alloc ?_ _) | (with_reducible refine K.b_drewN ?_ _) | (with_reducible refine K.b_drew ?_) | (with_reducible refine K.b_set ?_ (by first | omega | (simp <;> omega)) _) | (with_reducible refine K.b_only ?_ (by assumption) (by first | omega | (simp <;> omega)))))⟩ ?_
    rintro WL ⟨hRS, hRF, hbL⟩
    have hbwL := hbL.size
    have HRF := K.H.mk hRF
    have HRS := K.H.mk hRS
    have HbL := K.H.mk hbL
    have hleS := hRS.le
    clear GN GO hRF hRS hbL hR2 hR3
    ((try clear hC3); (try clear hF3); (try clear hZ3); (try clear hc3); (try clear hf3); (try clear hl3); (try clear hB3); (try clear hO3); (try clear hA3); (try clear hz3_0); (try clear hz3_1); (try clear hz3_2); (try clear hz3_3); (try clear hz3_1_0); (try clear hz3_1_1); (try clear hz3_2_0); (try clear hz3_2_1); (try clear hC2); (try clear hF2); (try clear hZ2); (try clear hc2); (try clear hf2); (try clear hl2); (try clear hB2); (try clear hO2); (try clear hA2); (try clear hz2_0); (try clear hz2_1); (try clear hz2_2); (try clear hz2_3); (try clear hz2_1_0); (try clear hz2_1_1); (try clear hC1); (try clear hF1); (try clear hZ1); (try clear hc1); (try clear hf1); (try clear hl1); (try clear hB1); (try clear hO1); (try clear hA1); (try clear hz1_0); (try clear hz1_1); (try clear hz1_2); (try clear hz1_3))
    go_loopw [10, 11] (fun v10 v11 wr => ∃ (k : Nat) (V : List Tm), k ≤ S.length ∧ v11 = .int .i64 k ∧ K.H (V = (S.take k).filter (isOff ids)) ∧ V.length ≤ k ∧ wr.ownsRow WL.heap.size 25 2 v10 V.length (V.flatMap Tm.cs) ∧ K.H (Below WL.heap.size WL wr)) (fun _ v11 _ => S.length - (intOf v11).toNat)
    case atStart => exact ⟨0, [], by omega, rfl, ⟨by simp⟩, by simp, World.ownsRow_nil _ _ _ _, ⟨Below.refl _ _⟩⟩
    case round =>
      obtain ⟨k, V, hk, rfl, HV, hVk, hown, Hb⟩ := hrel
      obtain ⟨AV, cV, rfl, hRV⟩ := Sl.Rds.of_own hown
      have hsz := Hb.out.size
      by_cases hlt : k < S.length
      · obtain ⟨x, hx⟩ : ∃ x, S[k]? = some x := ⟨_, List.getElem?_eq_getElem hlt⟩
        obtain ⟨b, off, rfl, hbl, hbc⟩ := Sl.Rds.elem HRS.out Tm.cs_len (by omega) hx
        have HBC := K.H.mk hbc
        have HX := K.H.mk (filt_take (p := isOff ids) hx)
        have hkl : (k : Int) < (S.length : Int) := by omega
        have Hown := K.H.mk hown
        clear hbc hx hown hRV
        go_wp2
        refine K.wp_gen (fun W => K.Bel wr W) ⟨Below.refl _ _⟩ ?_
        rintro WO hBO
        have HbO := K.H.mk (Hb.out.trans (hBO.out.mono hsz))
        have HownO := K.H.mk (Sl.own_over Hown.out hBO)
        have hszO := HbO.out.size
        clear Hb Hown hBO hsz
        go_loopw [12, 13] (fun v12 v13 wr => ∃ (j : Nat) (o : Bool), j ≤ ids.length ∧ v12 = .bool o ∧ v13 = .int .i64 j ∧ K.H (o = hasI (ids.take j) x.id) ∧ K.Bel WO wr) (fun _ v13 _ => ids.length - (intOf v13).toNat)
        case atStart => exact ⟨0, false, by omega, rfl, rfl, ⟨by simp [hasI, Sl.anyOf]⟩, ⟨Below.refl _ _⟩⟩
        case round =>
          obtain ⟨j, o, hj, rfl, rfl, HO, hBq⟩ := hrel
          have HbW := K.H.mk (HbO.out.trans (hBq.out.mono hszO))
          have q_0 : wr.cell? ⟨b, off + k * 2, none⟩ = some (.int .i64 x.t) := (HbW.out.cell (p := ⟨b, off + k * 2 + 0, none⟩) hbl).trans (HBC.out 0 (by omega))
          have q_1 : wr.cell? ⟨b, off + k * 2 + 1, none⟩ = some (.int .i64 x.id) := (HbW.out.cell (p := ⟨b, off + k * 2 + 1, none⟩) hbl).trans (HBC.out 1 (by omega))
          have hbw : b < wr.heap.size := Nat.lt_of_lt_of_le hbl HbW.out.size
          have hBq0 := hBq
          by_cases hlj : j < ids.length
          · obtain ⟨y, hy⟩ : ∃ y, ids[j]? = some y := ⟨_, List.getElem?_eq_getElem hlj⟩
            have hww : Below w.heap.size w wr := HbL.out.trans (HbW.out.mono hbwL)
            obtain ⟨b5, off5, hee5, hbl5, hbc5⟩ := Sl.Rds.elem Hr2.out (enc := fun n => [.int .i64 n]) (fun _ => rfl) (by omega) hy
            subst hee5
            have q5_0 : wr.cell? ⟨b5, off5 + j, none⟩ = some (.int .i64 y) := by
              have := (hww.cell (p := ⟨b5, off5 + j * 1 + 0, none⟩) hbl5).trans (hbc5 0 (by omega))
              simpa using this
            clear hbc5
            have hbw5 : b5 < wr.heap.size := Nat.lt_of_lt_of_le hbl5 hww.size
            have hjl : (j : Int) < (ids.length : Int) := by omega
            have HY := K.H.mk (show ids.take (j + 1) = ids.take j ++ [y] by rw [List.take_add_one, hy]; rfl)
            clear hy hww
            cases o
            · obtain ⟨e, he⟩ : ∃ e, e = (y == x.id) := ⟨_, rfl⟩
              have HE2 := K.H.mk (show e = hasI (ids.take (j + 1)) x.id by rw [HY.out, hasI_snoc, ← HO.out, he]; rfl)
              cases e
              · have hxy : (y == x.id) = false := he.symm
                clear he
                go_wp2
                refine K.wp_region_ext_lit (by kernel_rfl) (by kernel_rfl) ?_
                repeat (any_goals (first | go_big_quiet_skip | quiet_step (fail) | (refine wpQuiet_step (fun K hK => ?_); go_simp; split <;> (refine hK _ ?_; clear hK K))))
                all_goals (refine wpQuiet_nil ?_; intro W9 hW9; obtain ⟨hB9, hC9, hF9, hZ9⟩ := K.ext_facts hW9; clear hW9)
                all_goals go_wp2
                go_roundw
                case rel => exact ⟨j + 1, false, by omega, rfl, by go_num, HE2, ⟨hBq0.out.trans (hB9.out.mono hBq0.out.size)⟩⟩
                case measure => simp [intOf]; omega
              · have hxy : (y == x.id) = true := he.symm
                clear he
                go_wp2
                refine K.wp_region_ext_lit (by kernel_rfl) (by kernel_rfl) ?_
                repeat (any_goals (first | go_big_quiet_skip | quiet_step (fail) | (refine wpQuiet_step (fun K hK => ?_); go_simp; split <;> (refine hK _ ?_; clear hK K))))
                all_goals (refine wpQuiet_nil ?_; intro W9 hW9; obtain ⟨hB9, hC9, hF9, hZ9⟩ := K.ext_facts hW9; clear hW9)
                all_goals go_wp2
                go_roundw
                case rel => exact ⟨j + 1, true, by omega, rfl, by go_num, HE2, ⟨hBq0.out.trans (hB9.out.mono hBq0.out.size)⟩⟩
                case measure => simp [intOf]; omega
            · have HE2 := K.H.mk (show true = hasI (ids.take (j + 1)) x.id by rw [HY.out, hasI_snoc, ← HO.out]; rfl)
              go_wp2
              refine K.wp_region_ext_lit (by kernel_rfl) (by kernel_rfl) ?_
              repeat (any_goals (first | go_big_quiet_skip | quiet_step (fail) | (refine wpQuiet_step (fun K hK => ?_); go_simp; split <;> (refine hK _ ?_; clear hK K))))
              all_goals (refine wpQuiet_nil ?_; intro W9 hW9; obtain ⟨hB9, hC9, hF9, hZ9⟩ := K.ext_facts hW9; clear hW9)
              all_goals go_wp2
              go_roundw
              case rel => exact ⟨j + 1, true, by omega, rfl, by go_num, HE2, ⟨hBq0.out.trans (hB9.out.mono hBq0.out.size)⟩⟩
              case measure => simp [intOf]; omega
          · obtain rfl : j = ids.length := by omega
            have HOo := K.H.mk (show isOff ids x = !o by rw [HO.out, List.take_length]; rfl)
            have hownW := Sl.own_over HownO.out hBq
            cases o
            · have HVn := K.H.mk (show V ++ [x] = (S.take (k + 1)).filter (isOff ids) by rw [HX.out, HV.out, HOo.out]; simp)
              have hnews : V.flatMap Tm.cs ++ [.int .i64 x.t, .int .i64 x.id] = (V ++ [x]).flatMap Tm.cs := by simp [Tm.cs]
              have Hn := K.H.mk hnews
              clear hnews
              go_wp2_with (first | (at_builtin; refine Sl.app1 (news := [.int .i64 x.t, .int .i64 x.id]) rfl _ _ 22 25 (.agg #[.int .i64 0, .int .i64 0]) rfl Try.underlying22 (by kernel_rfl : (Try.prog.info? 25).map (fun i => (i.zero, i.size, i.bytes)) = some (some (.agg #[.int .i64 0, .int .i64 0]), 2, 16)) rfl (by decide) (by decide) rfl ((hownW).alloc _) rfl rfl (Sl.new_cells _ _ _ _ (by first | rfl | simp)) (by simp [Value.oneCell']) (by omega) (by have := HbW.out.size; simp; omega) ?_; intro v6 W6 hown6 hgr6))
              rw [Hn.out] at hown6
              go_roundw
              case rel => exact ⟨k + 1, V ++ [x], by omega, by go_num, HVn, by simp; omega, by simpa using hown6, ⟨Sl.below_grown (K.b_alloc HbW.out _) hgr6 (Sl.own_base hownW)⟩⟩
              case measure => simp [intOf]; omega
            · have HVn := K.H.mk (show V = (S.take (k + 1)).filter (isOff ids) by rw [HX.out, ← HV.out, HOo.out]; simp)
              go_wp2
              go_roundw
              case rel => exact ⟨k + 1, V, by omega, by go_num, HVn, by omega, hownW, HbW⟩
              case measure => simp [intOf]; omega
      · obtain rfl : k = S.length := by omega
        have HVF := K.H.mk (show V = S.filter (isOff ids) by rw [HV.out, List.take_length])
        have hVl : V.length = F.length := by rw [HVF.out, HFL.out]
        have hlV : V.length ≤ S.length := hVk
        have hRF2 := HRF.out.below Hb.out
        have hw7 : IntKind.i64.wrap ((S.length : Int) - (V.length : Int)) = (S.length : Int) - (V.length : Int) := K.i64_in (by omega) (by omega)
        have hq7 : ((S.length : Int) - (F.length : Int) == (S.length : Int) - (V.length : Int)) = true := by rw [hVl]; simp
        have GS := K.H.mk (fun (W : World) (A7 : Option Addr) (c7 : Nat) (h7 : Sl.Rds W 2 A7 (S.filter (isOff ids)).length ((S.filter (isOff ids)).flatMap Tm.cs)) (h8 : Sl.Rds W 2 AV V.length (V.flatMap Tm.cs)) => sameTm_c (S.filter (isOff ids)) V A7 AV (S.filter (isOff ids)).length V.length c7 cV W h7 h8)
        rw [decide_eq_true HVF.out.symm] at GS
        generalize S.filter (isOff ids) = Y at *
        have HbW := K.H.mk (HbL.out.trans (Hb.out.mono hbwL))
        clear hown hVl hlV
        go_wp2_with (first
          | (go_at_call 17; (with_reducible refine (GF.out _ _ _ hRF2).mono ?_); rintro e W7 ⟨v7, rfl, hown7, hb7⟩; obtain ⟨A7, c7, rfl, hca7, hcm7, hR7⟩ := Sl.Rds.of_own2 hown7; simp only [maxLen] at hcm7; clear hown7; obtain ⟨hB7, hC7, hF7, hZ7⟩ := K.bel_facts hb7; clear hb7)
          | (go_at_call 11; (with_reducible refine (num_c _ _).mono ?_); rintro e w' ⟨rfl, hw'⟩; have hw'2 := Eq.symm hw'; clear hw'; subst hw'2)
          | (go_at_call 18; (with_reducible refine (GS.out _ _ _ hR7 (hRV.bel hB7)).mono ?_); rintro e W8 ⟨rfl, hb8⟩; obtain ⟨hB8, hC8, hF8, hZ8⟩ := K.bel_facts hb8; clear hb8))
        go_ret
        exact ⟨rfl, (by repeat (first | (with_reducible exact Below.refl _ _) | (with_reducible exact HbW.out) | (with_reducible refine K.b_bel ?_ (by assumption)) | (with_reducible refine K.b_alloc ?_ _) | (with_reducible refine K.b_drewN ?_ _) | (with_reducible refine K.b_drew ?_) | (with_reducible refine K.b_set ?_ (by first | omega | (simp <;> omega)) _) | (with_reducible refine K.b_only ?_ (by assumption) (by first | omega | (simp <;> omega)))))⟩
  · have hd : (eChk l != 0) = true := by simpa using h
    rw [show rCan l ids = (eChk l, [], 0) by unfold rCan; rw [if_neg h]] at GN
    rw [show rOrd l = (eChk l, []) by unfold rOrd; rw [if_neg h]] at GO
    generalize eChk l = er at *
    clear hr hr2 h
    have hee : (er == er) = true := by simp
    go_enter Try.func5, Try.ntmps5
    go_wp2_with (first
      | (go_at_call 9; (with_reducible refine (alive_c _).mono ?_); rintro e W1 ⟨rfl, hb1⟩; obtain ⟨hB1, hC1, hF1, hZ1⟩ := K.bel_facts hb1; clear hb1)
      | (go_at_call 15; (with_reducible refine (GN.out _ (by repeat (first | (with_reducible exact Below.refl _ _) | (with_reducible refine K.b_bel ?_ (by assumption)) | (with_reducible refine K.b_alloc ?_ _) | (with_reducible refine K.b_drewN ?_ _) | (with_reducible refine K.b_drew ?_) | (with_reducible refine K.b_set ?_ (by first | omega | (simp <;> omega)) _) | (with_reducible refine K.b_only ?_ (by assumption) (by first | omega | (simp <;> omega)))))).mono ?_); rintro e W2 ⟨v2, rfl, hown2, hb2⟩; obtain ⟨A2, c2, rfl, hca2, hcm2, hR2⟩ := Sl.Rds.of_own2 hown2; simp only [maxLen] at hcm2; clear hown2; obtain ⟨hB2, hC2, hF2, hZ2⟩ := K.bel_facts hb2; clear hb2)
      | (go_at_call 17; (with_reducible refine (GO.out _ (by repeat (first | (with_reducible exact Below.refl _ _) | (with_reducible refine K.b_bel ?_ (by assumption)) | (with_reducible refine K.b_alloc ?_ _) | (with_reducible refine K.b_drewN ?_ _) | (with_reducible refine K.b_drew ?_) | (with_reducible refine K.b_set ?_ (by first | omega | (simp <;> omega)) _) | (with_reducible refine K.b_only ?_ (by assumption) (by first | omega | (simp <;> omega)))))).mono ?_); rintro e W3 ⟨v3, rfl, hown3, hb3⟩; obtain ⟨A3, c3, rfl, hca3, hcm3, hR3⟩ := Sl.Rds.of_own2 hown3; simp only [maxLen] at hcm3; clear hown3; obtain ⟨hB3, hC3, hF3, hZ3⟩ := K.bel_facts hb3; clear hb3)
      | (go_at_call 11; (with_reducible refine (num_c _ _).mono ?_); rintro e w' ⟨rfl, hw'⟩; have hw'2 := Eq.symm hw'; clear hw'; subst hw'2))
    go_ret
    exact ⟨rfl, (by repeat (first | (with_reducible exact Below.refl _ _) | (with_reducible refine K.b_bel ?_ (by assumption)) | (with_reducible refine K.b_alloc ?_ _) | (with_reducible refine K.b_drewN ?_ _) | (with_reducible refine K.b_drew ?_) | (with_reducible refine K.b_set ?_ (by first | omega | (simp <;> omega)) _) | (with_reducible refine K.b_only ?_ (by assumption) (by first | omega | (simp <;> omega)))))⟩
end Go.Proofs.Ytmoaekjkihbicaa.Tm
