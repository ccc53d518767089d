/- Ring: the walk of RingOrder. -/
import Derived.Test.YtkalbiihehcjkaaRg22
set_option linter.unusedVariables false
namespace Go.Proofs.Ytkalbiihehcjkaa.Rg
open Go.RowKit Go.Proofs.Ytkalbiihehcjkaa
set_option linter.unusedSimpArgs false
set_option maxRecDepth 100000 in
set_option maxHeartbeats 8000000 in
theorem Order_c (p : Int) (l : List Bk) (A : Option Addr) (n c : Nat) (w : World) (hr : Sl.Rds w 2 A n (l.flatMap Bk.cs)) :
    Calls Try.prog 3 #[.int .i64 p, .slice A n c] w fun e w' => e = .returned (.bool true) ∧ Below w.heap.size w w' := by
  obtain rfl := hr.length Bk.cs_len (by omega)
  have hle := hr.le
  have GB := K.H.mk (fun (W : World) (hb : Below w.heap.size w W) => Build_c l p A l.length c W (hr.below hb))
  have GL := K.H.mk (fun (W : World) => alive_c W)
  have Hr := K.H.mk hr
  clear hr
  by_cases h : eBuild p l = 0
  · obtain ⟨h1, h2, h3, h4, h5⟩ := eBuild_0 h
    obtain ⟨f1, f2, f3⟩ := eChk_fine h1
    obtain ⟨R, hR⟩ : ∃ R, R = oBuild p l := ⟨_, rfl⟩
    have hlen := len_build h
    have HW := K.H.mk (hR ▸ wChk_build h)
    have HC := K.H.mk (fun (x : Bk) (hx : x ∈ l) => hR ▸ cnt_build h hx)
    have HF := K.H.mk f2
    rw [← hR] at hlen
    rw [h, ← hR] at GB
    have hR16 : R.length ≤ 1024 := by omega
    have HL := K.H.mk hlen
    have hl32 : l.length ≤ 32 := f1
    clear h h1 h4 h5 f1 f2 f3 hR hlen
    go_enter Try.func3, Try.ntmps3
    go_wp2_with (first
      | (go_at_call 9; (with_reducible refine (GL.out _).mono ?_); rintro e W1 ⟨rfl, hb1⟩; obtain ⟨hB1, hC1, hF1, hZ1⟩ := K.bel_facts hb1; clear hb1)
      | (go_at_call 10; (with_reducible refine (GB.out _ (by repeat (first | (with_reducible exact Below.refl _ _) | (with_reducible refine K.b_bel ?_ (by assumption)) | (with_reducible refine K.b_alloc ?_ _) | (with_reducible refine K.b_drewN ?_ _) | (with_reducible refine K.b_drew ?_) | (with_reducible refine K.b_set ?_ (by first | omega | (simp <;> omega)) _) | (with_reducible refine K.b_only ?_ (by assumption) (by first | omega | (simp <;> omega)))))).mono ?_); rintro e W3 ⟨v3, rfl, hown3, hb3⟩; obtain ⟨hB3, hC3, hF3, hZ3⟩ := K.bel_facts hb3; clear hb3; obtain ⟨A3, c3, rfl, hR3⟩ := Sl.Rds.of_own hown3; clear hown3)
      | (go_at_call 11; (with_reducible refine (num_c _ _).mono ?_); rintro e w' ⟨rfl, hw'⟩; have hw'2 := Eq.symm hw'; clear hw'; subst hw'2))
    have Hb3 := K.H.mk (show Below w.heap.size w W3 from (by repeat (first | (with_reducible exact Below.refl _ _) | (with_reducible refine K.b_bel ?_ (by assumption)) | (with_reducible refine K.b_alloc ?_ _) | (with_reducible refine K.b_drewN ?_ _) | (with_reducible refine K.b_drew ?_) | (with_reducible refine K.b_set ?_ (by first | omega | (simp <;> omega)) _) | (with_reducible refine K.b_only ?_ (by assumption) (by first | omega | (simp <;> omega))))))
    have HR3 := K.H.mk hR3
    clear hR3 GB GL
    ((try clear 1); (try clear 3))
    go_loopw [7, 8] (fun m i wr => ∃ k q : Nat, k ≤ l.length ∧ q ≤ 1024 * k ∧ K.H (q = (rawTo p (l.take k)).length) ∧ m = .int .i64 q ∧ i = .int .i64 k ∧ K.H (Below w.heap.size w wr ∧ Below W3.heap.size W3 wr)) (fun _ i _ => l.length - (intOf i).toNat)
    case atStart => exact ⟨0, 0, by omega, by omega, ⟨rfl⟩, rfl, rfl, ⟨Hb3.out, Below.refl _ _⟩⟩
    case round =>
      obtain ⟨k, q, hk, hq, HQ, rfl, rfl, Hb⟩ := hrel
      have hsz := Hb.out.1.size
      by_cases hlt : k < l.length
      · obtain ⟨x, hx⟩ : ∃ x, l[k]? = some x := ⟨_, List.getElem?_eq_getElem hlt⟩
        obtain ⟨f3, f4, f5, f6⟩ := HF.out x (List.mem_of_getElem? hx)
        obtain ⟨e1, e2⟩ := cnt_le (x := x) h2 h3 f5 f6
        have HT := K.H.mk (show (rawTo p (l.take (k + 1))).length = q + cnt p x by rw [rawTo_take hx, List.length_append, rowOf_len, ← HQ.out])
        have HC2 := K.H.mk (HC.out x (List.mem_of_getElem? hx))
        have m1 : IntKind.i64.wrap (p * x.wt) = ((cnt p x : Nat) : Int) := by rw [← e1, K.i64_in (by omega) (by omega)]
        generalize cnt p x = N at *
        have hqn : q + N ≤ 40000 := by omega
        have hkl : (k : Int) < (l.length : Int) := by omega
        have HX := K.H.mk hx
        have M1 := K.H.mk m1
        clear hx e1 m1
        go_wp2
        go_loopw [9, 10] (fun m i wr2 => ∃ j d : Nat, j ≤ R.length ∧ d ≤ j ∧ K.H (d = (R.take j).countP (fun q => q.i == x.id)) ∧ m = .int .i64 d ∧ i = .int .i64 j ∧ K.H (Below w.heap.size w wr2 ∧ Below W3.heap.size W3 wr2)) (fun _ i _ => R.length - (intOf i).toNat)
        case atStart => exact ⟨0, 0, by omega, by omega, ⟨rfl⟩, rfl, rfl, Hb⟩
        case round =>
          clear Hb
          obtain ⟨j, d, hj, hd, HD, rfl, rfl, Hb⟩ := hrel
          obtain ⟨b, off, rfl, hbl, hbc⟩ := Sl.Rds.elem Hr.out Bk.cs_len (by omega) HX.out
          have q_0 : wr.cell? ⟨b, off + k * 2, none⟩ = some (.int .i64 x.id) := (Hb.out.1.cell (p := ⟨b, off + k * 2 + 0, none⟩) hbl).trans (hbc 0 (by omega))
          have q_1 : wr.cell? ⟨b, off + k * 2 + 1, none⟩ = some (.int .i64 x.wt) := (Hb.out.1.cell (p := ⟨b, off + k * 2 + 1, none⟩) hbl).trans (hbc 1 (by omega))
          clear hbc
          by_cases hjt : j < R.length
          · obtain ⟨y, hy⟩ : ∃ y, R[j]? = some y := ⟨_, List.getElem?_eq_getElem hjt⟩
            obtain ⟨b3, off3, rfl, hbl3, hbc3⟩ := Sl.Rds.elem HR3.out Pt.cs_len (by omega) hy
            have q3_0 : wr.cell? ⟨b3, off3 + j * 2, none⟩ = some (.int .u64 y.h) := (Hb.out.2.cell (p := ⟨b3, off3 + j * 2 + 0, none⟩) hbl3).trans (hbc3 0 (by omega))
            have q3_1 : wr.cell? ⟨b3, off3 + j * 2 + 1, none⟩ = some (.int .i64 y.i) := (Hb.out.2.cell (p := ⟨b3, off3 + j * 2 + 1, none⟩) hbl3).trans (hbc3 1 (by omega))
            clear hbc3
            have HT2 := K.H.mk (take_cnt hy x.id)
            have hkl2 : (k : Int) < (l.length : Int) := by omega
            have hjl2 : (j : Int) < (R.length : Int) := by omega
            have hk0 : (0 : Int) ≤ (k : Int) := by omega
            have hj0 : (0 : Int) ≤ (j : Int) := by omega
            have hbw : b < wr.heap.size := Nat.lt_of_lt_of_le hbl Hb.out.1.size
            have hbw3 : b3 < wr.heap.size := Nat.lt_of_lt_of_le hbl3 Hb.out.2.size
            clear hy
            cases he : (y.i == x.id)
            · rw [he, if_neg (by simp)] at HT2
              go_wp2
              refine K.wp_region_ext_lit (by kernel_rfl) (by kernel_rfl) ?_
              repeat (any_goals (first | go_big_quiet_skip | quiet_step (fail) | (refine wpQuiet_step (fun K hK => ?_); go_simp; split <;> (refine hK _ ?_; clear hK K))))
              all_goals (refine wpQuiet_nil ?_; intro W9 hW9; obtain ⟨hB9, hC9, hF9, hZ9⟩ := K.ext_facts hW9; clear hW9)
              go_wp2
              go_roundw
              case rel => exact ⟨j + 1, d, by omega, by omega, ⟨by rw [HT2.out, ← HD.out]; rfl⟩, by go_num, by go_num, ⟨(by repeat (first | (with_reducible exact Below.refl _ _) | (with_reducible exact Hb.out.1) | (with_reducible refine K.b_bel ?_ (by assumption)) | (with_reducible refine K.b_alloc ?_ _) | (with_reducible refine K.b_drewN ?_ _) | (with_reducible refine K.b_drew ?_) | (with_reducible refine K.b_set ?_ (by first | omega | (simp <;> omega)) _) | (with_reducible refine K.b_only ?_ (by assumption) (by first | omega | (simp <;> omega))))), (by repeat (first | (with_reducible exact Below.refl _ _) | (with_reducible exact Hb.out.2) | (with_reducible refine K.b_bel ?_ (by assumption)) | (with_reducible refine K.b_alloc ?_ _) | (with_reducible refine K.b_drewN ?_ _) | (with_reducible refine K.b_drew ?_) | (with_reducible refine K.b_set ?_ (by first | omega | (simp <;> omega)) _) | (with_reducible refine K.b_only ?_ (by assumption) (by first | omega | (simp <;> omega)))))⟩⟩
              case measure => simp [intOf]; omega
            · rw [he, if_pos rfl] at HT2
              go_wp2
              refine K.wp_region_ext_lit (by kernel_rfl) (by kernel_rfl) ?_
              repeat (any_goals (first | go_big_quiet_skip | quiet_step (fail) | (refine wpQuiet_step (fun K hK => ?_); go_simp; split <;> (refine hK _ ?_; clear hK K))))
              all_goals (refine wpQuiet_nil ?_; intro W9 hW9; obtain ⟨hB9, hC9, hF9, hZ9⟩ := K.ext_facts hW9; clear hW9)
              go_wp2
              go_roundw
              case rel => exact ⟨j + 1, d + 1, by omega, by omega, ⟨by rw [HT2.out, ← HD.out]⟩, by go_num, by go_num, ⟨(by repeat (first | (with_reducible exact Below.refl _ _) | (with_reducible exact Hb.out.1) | (with_reducible refine K.b_bel ?_ (by assumption)) | (with_reducible refine K.b_alloc ?_ _) | (with_reducible refine K.b_drewN ?_ _) | (with_reducible refine K.b_drew ?_) | (with_reducible refine K.b_set ?_ (by first | omega | (simp <;> omega)) _) | (with_reducible refine K.b_only ?_ (by assumption) (by first | omega | (simp <;> omega))))), (by repeat (first | (with_reducible exact Below.refl _ _) | (with_reducible exact Hb.out.2) | (with_reducible refine K.b_bel ?_ (by assumption)) | (with_reducible refine K.b_alloc ?_ _) | (with_reducible refine K.b_drewN ?_ _) | (with_reducible refine K.b_drew ?_) | (with_reducible refine K.b_set ?_ (by first | omega | (simp <;> omega)) _) | (with_reducible refine K.b_only ?_ (by assumption) (by first | omega | (simp <;> omega)))))⟩⟩
              case measure => simp [intOf]; omega
          · obtain rfl : j = R.length := by omega
            have hd2 : d = N := by rw [HD.out, List.take_length]; exact HC2.out
            subst hd2
            have m1 := M1.out
            have hbw : b < wr.heap.size := Nat.lt_of_lt_of_le hbl Hb.out.1.size
            go_wp2
            go_roundw
            case rel => exact ⟨k + 1, q + d, by omega, by omega, ⟨HT.out.symm⟩, by go_num, by go_num, Hb⟩
            case measure => simp [intOf]; omega
      · obtain rfl : k = l.length := by omega
        have hq2 : q = R.length := by rw [HQ.out, List.take_length, HL.out]
        subst hq2
        have GW := K.H.mk (show Calls Try.prog 12 #[.slice A3 R.length c3] wr fun e w' => e = .returned (.int .i64 0) ∧ Below wr.heap.size wr w' from HW.out ▸ Whole_c R A3 R.length c3 wr (HR3.out.below Hb.out.2))
        go_wp2_with (first
          | (go_at_call 12; (with_reducible refine (GW.out).mono ?_); rintro e W4 ⟨rfl, hb4⟩; obtain ⟨hB4, hC4, hF4, hZ4⟩ := K.bel_facts hb4; clear hb4)
          | (go_at_call 11; (with_reducible refine (num_c _ _).mono ?_); rintro e w' ⟨rfl, hw'⟩; have hw'2 := Eq.symm hw'; clear hw'; subst hw'2))
        go_ret
        exact ⟨rfl, (by repeat (first | (with_reducible exact Below.refl _ _) | (with_reducible exact Hb.out.1) | (with_reducible refine K.b_bel ?_ (by assumption)) | (with_reducible refine K.b_alloc ?_ _) | (with_reducible refine K.b_drewN ?_ _) | (with_reducible refine K.b_drew ?_) | (with_reducible refine K.b_set ?_ (by first | omega | (simp <;> omega)) _) | (with_reducible refine K.b_only ?_ (by assumption) (by first | omega | (simp <;> omega)))))⟩
  · have ho := oBuild_nil h
    have hd : (eBuild p l != 0) = true := by simpa using h
    rw [ho] at GB
    generalize eBuild p l = er at *
    clear h ho
    go_enter Try.func3, Try.ntmps3
    go_wp2_with (first
      | (go_at_call 9; (with_reducible refine (GL.out _).mono ?_); rintro e W1 ⟨rfl, hb1⟩; obtain ⟨hB1, hC1, hF1, hZ1⟩ := K.bel_facts hb1; clear hb1)
      | (go_at_call 10; (with_reducible refine (GB.out _ (by repeat (first | (with_reducible exact Below.refl _ _) | (with_reducible refine K.b_bel ?_ (by assumption)) | (with_reducible refine K.b_alloc ?_ _) | (with_reducible refine K.b_drewN ?_ _) | (with_reducible refine K.b_drew ?_) | (with_reducible refine K.b_set ?_ (by first | omega | (simp <;> omega)) _) | (with_reducible refine K.b_only ?_ (by assumption) (by first | omega | (simp <;> omega)))))).mono ?_); rintro e W3 ⟨v3, rfl, hown3, hb3⟩; obtain ⟨hB3, hC3, hF3, hZ3⟩ := K.bel_facts hb3; clear hb3; obtain ⟨A3, c3, rfl, hR3⟩ := Sl.Rds.of_own hown3; clear hown3)
      | (go_at_call 11; (with_reducible refine (num_c _ _).mono ?_); rintro e w' ⟨rfl, hw'⟩; have hw'2 := Eq.symm hw'; clear hw'; subst hw'2))
    go_ret
    exact ⟨rfl, (by repeat (first | (with_reducible exact Below.refl _ _) | (with_reducible refine K.b_bel ?_ (by assumption)) | (with_reducible refine K.b_alloc ?_ _) | (with_reducible refine K.b_drewN ?_ _) | (with_reducible refine K.b_drew ?_) | (with_reducible refine K.b_set ?_ (by first | omega | (simp <;> omega)) _) | (with_reducible refine K.b_only ?_ (by assumption) (by first | omega | (simp <;> omega)))))⟩
end Go.Proofs.Ytkalbiihehcjkaa.Rg
