/- Timer: the reference's Cancel. -/
import Derived.Test.YtmoaekjkihbicaaTm13
import Derived.Test.YtmoaekjkihbicaaTm22
import Derived.Test.YtmoaekjkihbicaaTm23
set_option linter.unusedVariables false
namespace Go.Proofs.Ytmoaekjkihbicaa.Tm
open Go.RowKit Go.Proofs.Ytmoaekjkihbicaa
set_option linter.unusedSimpArgs false
theorem hasI_snoc2 (L : List Int) (y v : Int) : hasI (L ++ [y]) v = (hasI L v || (y == v)) := by
  unfold hasI Sl.anyOf
  rw [List.any_append]
  simp [Bool.beq_comm]
set_option maxRecDepth 100000 in
set_option maxHeartbeats 8000000 in
theorem rCancel_c (l : List Tm) (ids : List Int) (A Ai : Option Addr) (n c n2 ci : Nat) (w : World) (hr : Sl.Rds w 2 A n (l.flatMap Tm.cs)) (hr2 : Sl.Rds w 1 Ai n2 (ids.flatMap enJ)) :
    Calls Try.prog 24 #[.slice A n c, .slice Ai n2 ci] w (CPost w (rCan l ids)) := by
  obtain rfl := hr.length Tm.cs_len (by omega)
  obtain rfl := hr2.length (fun _ => rfl) (by omega)
  have hle2 := hr2.le
  have GC := K.H.mk (fun (W : World) (hb : Below w.heap.size w W) => rCheck_c l A l.length c W (hr.below hb))
  by_cases h : eChk l = 0
  · have hl := (eChk_of h).1
    rw [h] at GC
    obtain ⟨R, hR⟩ : ∃ R, R = canF [] l ids := ⟨_, rfl⟩
    rw [show rCan l ids = (0, R, (l.length : Int) - (R.length : Int)) by unfold rCan; rw [if_pos h, hR]]
    have HR := K.H.mk (show R = canF [] (l.drop 0) ids from hR)
    have Hr := K.H.mk hr
    have Hr2 := K.H.mk hr2
    clear hr hr2 h hR
    go_enter Try.func24, Try.ntmps24
    go_wp2_with (first
      | (go_at_call 26; (with_reducible refine (GC.out _ (by repeat (first | (with_reducible exact Below.refl _ _) | (with_reducible refine K.b_bel ?_ (by assumption)) | (with_reducible refine K.b_alloc ?_ _) | (with_reducible refine K.b_drewN ?_ _) | (with_reducible refine K.b_drew ?_) | (with_reducible refine K.b_set ?_ (by first | omega | (simp <;> omega)) _) | (with_reducible refine K.b_only ?_ (by assumption) (by first | omega | (simp <;> omega)))))).mono ?_); rintro e W1 ⟨rfl, hb1⟩; obtain ⟨hB1, hC1, hF1, hZ1⟩ := K.bel_facts hb1; clear hb1))
    have hgb := hB1.out.size
    have Hb2 : K.H (Below w.heap.size w W1) := ⟨(by repeat (first | (with_reducible exact Below.refl _ _) | (with_reducible refine K.b_bel ?_ (by assumption)) | (with_reducible refine K.b_alloc ?_ _) | (with_reducible refine K.b_drewN ?_ _) | (with_reducible refine K.b_drew ?_) | (with_reducible refine K.b_set ?_ (by first | omega | (simp <;> omega)) _) | (with_reducible refine K.b_only ?_ (by assumption) (by first | omega | (simp <;> omega)))))⟩
    ((try clear hC1); (try clear hF1); (try clear hZ1); (try clear hc1); (try clear hf1); (try clear hl1); (try clear hB1); (try clear hO1); (try clear hA1); (try clear hz1_0); (try clear hz1_1); (try clear hz1_2); (try clear hz1_3))
    clear GC
    go_loopw [8, 9, 10] (fun v8 v9 i wr => ∃ (k : Nat) (h : List Tm) (B : Option Addr) (d : Nat), k ≤ l.length ∧ i = .int .i64 k ∧ v8 = .slice B h.length d ∧ v9 = .int .i64 ((k : Int) - (h.length : Int)) ∧ h.length ≤ k ∧ K.H (R = canF h (l.drop k) ids) ∧ wr.ownsRow w.heap.size 25 2 (.slice B h.length d) h.length (h.flatMap Tm.cs) ∧ K.H (Below w.heap.size w wr)) (fun _ _ i _ => l.length - (intOf i).toNat)
    case atStart => exact ⟨0, [], none, 0, by omega, rfl, rfl, by simp, by simp, HR, World.ownsRow_nil _ _ _ _, Hb2⟩
    case round =>
      clear HR Hb2
      obtain ⟨k, h, B, d, hk, rfl, rfl, rfl, hhl, HR, hown, Hb⟩ := hrel
      have hsz := Hb.out.size
      by_cases hlt : k < l.length
      · obtain ⟨x, hx⟩ : ∃ x, l[k]? = some x := ⟨_, List.getElem?_eq_getElem hlt⟩
        obtain ⟨b, off, rfl, hbl, hbc⟩ := Sl.Rds.elem Hr.out Tm.cs_len (by omega) hx
        have HBC := K.H.mk hbc
        have HX := K.H.mk (drop_at hx)
        have hkl : (k : Int) < (l.length : Int) := by omega
        have HS := K.H.mk (show R = canF (if hasI ids x.id = true then h else pushL h x) (l.drop (k + 1)) ids by rw [HR.out, HX.out]; rfl)
        have Hown := K.H.mk hown
        have Hb0 := K.H.mk Hb.out
        clear hbc hx hown HR HX Hb
        go_wp2
        refine K.wp_gen (fun W => K.Bel wr W) ⟨Below.refl _ _⟩ ?_
        rintro WO hBO
        have HbO := K.H.mk (Hb0.out.trans (hBO.out.mono hsz))
        have HownO := K.H.mk (Sl.own_over Hown.out hBO)
        have hszO := HbO.out.size
        clear Hb0 Hown hBO hsz
        go_loopw [11, 12] (fun v12 v13 wr => ∃ (j : Nat) (o : Bool), j ≤ ids.length ∧ v12 = .bool o ∧ v13 = .int .i64 j ∧ K.H (o = hasI (ids.take j) x.id) ∧ K.Bel WO wr) (fun _ v13 _ => ids.length - (intOf v13).toNat)
        case atStart => exact ⟨0, false, by omega, rfl, rfl, ⟨by simp [hasI, Sl.anyOf]⟩, ⟨Below.refl _ _⟩⟩
        case round =>
          obtain ⟨j, o, hj, rfl, rfl, HO, hBq⟩ := hrel
          have HbW := K.H.mk (HbO.out.trans (hBq.out.mono hszO))
          have q_0 : wr.cell? ⟨b, off + k * 2, none⟩ = some (.int .i64 x.t) := (HbW.out.cell (p := ⟨b, off + k * 2 + 0, none⟩) hbl).trans (HBC.out 0 (by omega))
          have q_1 : wr.cell? ⟨b, off + k * 2 + 1, none⟩ = some (.int .i64 x.id) := (HbW.out.cell (p := ⟨b, off + k * 2 + 1, none⟩) hbl).trans (HBC.out 1 (by omega))
          have hbw : b < wr.heap.size := Nat.lt_of_lt_of_le hbl HbW.out.size
          have hBq0 := hBq
          by_cases hlj : j < ids.length
          · obtain ⟨y, hy⟩ : ∃ y, ids[j]? = some y := ⟨_, List.getElem?_eq_getElem hlj⟩
            obtain ⟨b5, off5, rfl, hbl5, hbc5⟩ := Sl.Rds.elem Hr2.out (enc := fun n => [.int .i64 n]) (fun _ => rfl) (by omega) hy
            have q5_0 : wr.cell? ⟨b5, off5 + j, none⟩ = some (.int .i64 y) := by
              have := (HbW.out.cell (p := ⟨b5, off5 + j * 1 + 0, none⟩) hbl5).trans (hbc5 0 (by omega))
              simpa using this
            have hbw5 : b5 < wr.heap.size := Nat.lt_of_lt_of_le hbl5 HbW.out.size
            have hjl : (j : Int) < (ids.length : Int) := by omega
            have HY := K.H.mk (show ids.take (j + 1) = ids.take j ++ [y] by rw [List.take_add_one, hy]; rfl)
            clear hy hbc5
            cases o
            · obtain ⟨e, he⟩ : ∃ e, e = (y == x.id) := ⟨_, rfl⟩
              have HE2 := K.H.mk (show e = hasI (ids.take (j + 1)) x.id by rw [HY.out, hasI_snoc2, ← HO.out, he]; rfl)
              cases e
              · have hxy : (y == x.id) = false := he.symm
                clear he
                go_wp2
                refine K.wp_region_ext_lit (by kernel_rfl) (by kernel_rfl) ?_
                repeat (any_goals (first | go_big_quiet_skip | quiet_step (fail) | (refine wpQuiet_step (fun K hK => ?_); go_simp; split <;> (refine hK _ ?_; clear hK K))))
                all_goals (refine wpQuiet_nil ?_; intro W9 hW9; obtain ⟨hB9, hC9, hF9, hZ9⟩ := K.ext_facts hW9; clear hW9)
                all_goals go_wp2
                go_roundw
                case rel => exact ⟨j + 1, false, by omega, rfl, by go_num, HE2, ⟨hBq0.out.trans (hB9.out.mono hBq0.out.size)⟩⟩
                case measure => simp [intOf]; omega
              · have hxy : (y == x.id) = true := he.symm
                clear he
                go_wp2
                refine K.wp_region_ext_lit (by kernel_rfl) (by kernel_rfl) ?_
                repeat (any_goals (first | go_big_quiet_skip | quiet_step (fail) | (refine wpQuiet_step (fun K hK => ?_); go_simp; split <;> (refine hK _ ?_; clear hK K))))
                all_goals (refine wpQuiet_nil ?_; intro W9 hW9; obtain ⟨hB9, hC9, hF9, hZ9⟩ := K.ext_facts hW9; clear hW9)
                all_goals go_wp2
                go_roundw
                case rel => exact ⟨j + 1, true, by omega, rfl, by go_num, HE2, ⟨hBq0.out.trans (hB9.out.mono hBq0.out.size)⟩⟩
                case measure => simp [intOf]; omega
            · have HE2 := K.H.mk (show true = hasI (ids.take (j + 1)) x.id by rw [HY.out, hasI_snoc2, ← HO.out]; rfl)
              go_wp2
              refine K.wp_region_ext_lit (by kernel_rfl) (by kernel_rfl) ?_
              repeat (any_goals (first | go_big_quiet_skip | quiet_step (fail) | (refine wpQuiet_step (fun K hK => ?_); go_simp; split <;> (refine hK _ ?_; clear hK K))))
              all_goals (refine wpQuiet_nil ?_; intro W9 hW9; obtain ⟨hB9, hC9, hF9, hZ9⟩ := K.ext_facts hW9; clear hW9)
              all_goals go_wp2
              go_roundw
              case rel => exact ⟨j + 1, true, by omega, rfl, by go_num, HE2, ⟨hBq0.out.trans (hB9.out.mono hBq0.out.size)⟩⟩
              case measure => simp [intOf]; omega
          · obtain rfl : j = ids.length := by omega
            have HOo := K.H.mk (show hasI ids x.id = o by rw [HO.out, List.take_length])
            have hownW := Sl.own_over HownO.out hBq
            have hszW := HbW.out.size
            cases o
            · have HR2 := K.H.mk (show R = canF (pushL h x) (l.drop (k + 1)) ids by rw [HS.out, if_neg (by rw [HOo.out]; simp)])
              have hl7 := pushL_len h x
              have GP := K.H.mk (rput_c h x w.heap.size (.slice B h.length d) wr hownW hszW (by omega))
              clear hownW
              go_wp2_with (first | (go_at_call 40; (with_reducible refine GP.out.mono ?_); rintro e W7 ⟨g7, d7, rfl, hown7, hb7⟩))
              rw [← hl7] at hown7
              go_roundw
              case rel => exact ⟨k + 1, pushL h x, some ⟨g7, 0, none⟩, d7, by omega, by go_num, by rw [hl7], by rw [hl7]; congr 1; omega, by omega, HR2, hown7, ⟨HbW.out.trans hb7⟩⟩
              case measure => simp [intOf]; omega
            · have HR2 := K.H.mk (show R = canF h (l.drop (k + 1)) ids by rw [HS.out, if_pos HOo.out])
              have hwn : IntKind.i64.wrap ((k : Int) - (h.length : Int) + 1) = (k : Int) - (h.length : Int) + 1 := K.i64_in (by omega) (by omega)
              go_wp2
              go_roundw
              case rel => exact ⟨k + 1, h, B, d, by omega, by go_num, rfl, by clear hwn; congr 1; omega, by omega, HR2, hownW, HbW⟩
              case measure => clear hwn; simp [intOf]; omega
      · obtain rfl : k = l.length := by omega
        rw [List.drop_length] at HR
        have hRe : R = h := HR.out
        subst hRe
        clear HR
        go_wp2
        ((try simp only [Exit.inBlock, Exit.then]); refine bodyPost_ret (v := .tuple #[.slice B R.length d, .int .i64 ((l.length : Int) - (R.length : Int)), .int .i64 0]) (by simp only [results, Try.results24]; go_simp) rfl ?_)
        exact ⟨_, rfl, hown, Hb.out⟩
  · have hd : (eChk l != 0) = true := by simpa using h
    rw [show rCan l ids = (eChk l, [], 0) by unfold rCan; rw [if_neg h]]
    generalize eChk l = er at *
    clear hr h hr2
    go_enter Try.func24, Try.ntmps24
    go_wp2_with (first | (go_at_call 26; (with_reducible refine (GC.out _ (by repeat (first | (with_reducible exact Below.refl _ _) | (with_reducible refine K.b_bel ?_ (by assumption)) | (with_reducible refine K.b_alloc ?_ _) | (with_reducible refine K.b_drewN ?_ _) | (with_reducible refine K.b_drew ?_) | (with_reducible refine K.b_set ?_ (by first | omega | (simp <;> omega)) _) | (with_reducible refine K.b_only ?_ (by assumption) (by first | omega | (simp <;> omega)))))).mono ?_); rintro e W1 ⟨rfl, hb1⟩; obtain ⟨hB1, hC1, hF1, hZ1⟩ := K.bel_facts hb1; clear hb1))
    ((try simp only [Exit.inBlock, Exit.then]); refine bodyPost_ret (v := .tuple #[.slice none 0 0, .int .i64 0, .int .i64 er]) (by simp only [results, Try.results24]; go_simp) rfl ?_)
    exact ⟨_, rfl, World.ownsRow_nil _ _ _ _, (by repeat (first | (with_reducible exact Below.refl _ _) | (with_reducible refine K.b_bel ?_ (by assumption)) | (with_reducible refine K.b_alloc ?_ _) | (with_reducible refine K.b_drewN ?_ _) | (with_reducible refine K.b_drew ?_) | (with_reducible refine K.b_set ?_ (by first | omega | (simp <;> omega)) _) | (with_reducible refine K.b_only ?_ (by assumption) (by first | omega | (simp <;> omega)))))⟩
end Go.Proofs.Ytmoaekjkihbicaa.Tm
