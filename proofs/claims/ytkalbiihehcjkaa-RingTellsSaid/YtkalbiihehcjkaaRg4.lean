/- Ring: Check: the library's. -/
import Derived.Test.YtkalbiihehcjkaaRg3
set_option linter.unusedVariables false
namespace Go.Proofs.Ytkalbiihehcjkaa.Rg
open Go.RowKit Go.Proofs.Ytkalbiihehcjkaa
set_option linter.unusedSimpArgs false
theorem eChk_3 {l : List Bk} (h : 32 < l.length) : eChk l = 3 := by unfold eChk; rw [if_pos h]
theorem eChk_4 {l : List Bk} (h : ¬ 32 < l.length) (h2 : Sl.anyOf Bk.odd l = true) : eChk l = 4 := by unfold eChk; rw [if_neg h, if_pos h2]
theorem eChk_r {l : List Bk} (h : ¬ 32 < l.length) (h2 : Sl.anyOf Bk.odd l = false) : eChk l = if ris l = true then 0 else 6 := by unfold eChk; rw [if_neg h, if_neg (by rw [h2]; decide)]
theorem ris_step {l : List Bk} {k : Nat} {x y : Bk} (h0 : 0 < k) (hx : l[k]? = some x) (hy : l[k - 1]? = some y) : ris (l.drop (k - 1)) = (decide (y.id < x.id) && ris (l.drop k)) := by
  obtain ⟨h1, e1⟩ := List.getElem?_eq_some_iff.1 hx
  obtain ⟨h2, e2⟩ := List.getElem?_eq_some_iff.1 hy
  rw [List.drop_eq_getElem_cons h2, show k - 1 + 1 = k by omega, List.drop_eq_getElem_cons h1, e1, e2]
  rfl
theorem ris_last (l : List Bk) : ris (l.drop (l.length - 1)) = true := by
  cases l with
  | nil => rfl
  | cons a r =>
    have h : ((a :: r).drop ((a :: r).length - 1)).length = 1 := by simp
    match hd : (a :: r).drop ((a :: r).length - 1), h with
    | [x], _ => rfl
set_option maxRecDepth 100000 in
set_option maxHeartbeats 4000000 in
theorem Check_c (l : List Bk) (A : Option Addr) (n c : Nat) (w : World) (hr : Sl.Rds w 2 A n (l.flatMap Bk.cs)) :
    Calls Try.prog 23 #[.slice A n c] w fun e w' => e = .returned (.int .i64 (eChk l)) ∧ Below w.heap.size w w' := by
  obtain rfl := hr.length Bk.cs_len (by omega)
  have hle := hr.le
  have Hr := K.H.mk hr
  clear hr
  have GA := K.H.mk (fun (W : World) (hb : Below w.heap.size w W) => anyOdd_c l A l.length c W (Hr.out.below hb))
  by_cases hl : 32 < l.length
  · rw [eChk_3 hl]
    have d1 : decide ((32 : Int) < (l.length : Int)) = true := decide_eq_true (by omega)
    have d2 : decide (32 < l.length) = true := decide_eq_true hl
    clear hl
    go_enter Try.func23, Try.ntmps23
    go_wp2
    go_ret
    exact ⟨rfl, (by repeat (first | (with_reducible exact Below.refl _ _) | (with_reducible refine K.b_bel ?_ (by assumption)) | (with_reducible refine K.b_alloc ?_ _) | (with_reducible refine K.b_drewN ?_ _) | (with_reducible refine K.b_drew ?_) | (with_reducible refine K.b_set ?_ (by first | omega | (simp <;> omega)) _) | (with_reducible refine K.b_only ?_ (by assumption) (by first | omega | (simp <;> omega)))))⟩
  · have d1 : decide ((32 : Int) < (l.length : Int)) = false := decide_eq_false (by omega)
    have d2 : decide (32 < l.length) = false := decide_eq_false hl
    cases ho : Sl.anyOf Bk.odd l
    · rw [ho] at GA
      obtain ⟨R, hR⟩ : ∃ R, R = ris l := ⟨_, rfl⟩
      rw [eChk_r hl ho, ← hR]
      have HR0 := K.H.mk hR
      obtain ⟨T, hT⟩ : ∃ T : Int, T = if R = true then 0 else 6 := ⟨_, rfl⟩
      rw [← hT]
      have HT := K.H.mk hT
      clear ho hR hl hT
      go_enter Try.func23, Try.ntmps23
      go_wp2_with (first | (go_at_call 41; (with_reducible refine (GA.out _ (by repeat (first | (with_reducible exact Below.refl _ _) | (with_reducible refine K.b_bel ?_ (by assumption)) | (with_reducible refine K.b_alloc ?_ _) | (with_reducible refine K.b_drewN ?_ _) | (with_reducible refine K.b_drew ?_) | (with_reducible refine K.b_set ?_ (by first | omega | (simp <;> omega)) _) | (with_reducible refine K.b_only ?_ (by assumption) (by first | omega | (simp <;> omega)))))).mono ?_); rintro e W1 ⟨rfl, hb1⟩; obtain ⟨hB1, hC1, hF1, hZ1⟩ := K.bel_facts hb1; clear hb1))
      have Hw1 := K.H.mk (show Below w.heap.size w W1 from (by repeat (first | (with_reducible exact Below.refl _ _) | (with_reducible refine K.b_bel ?_ (by assumption)) | (with_reducible refine K.b_alloc ?_ _) | (with_reducible refine K.b_drewN ?_ _) | (with_reducible refine K.b_drew ?_) | (with_reducible refine K.b_set ?_ (by first | omega | (simp <;> omega)) _) | (with_reducible refine K.b_only ?_ (by assumption) (by first | omega | (simp <;> omega))))))
      clear d1 d2 GA
      ((try clear hC1); (try clear hF1); (try clear hZ1); (try clear hc1); (try clear hf1); (try clear hl1); (try clear hB1); (try clear hO1); (try clear hA1); (try clear hz1_0); (try clear hz1_1); (try clear hz1_2); (try clear hz1_3))
      go_loopw [15] (fun i wr => ∃ k : Nat, k ≤ l.length ∧ i = .int .i64 k ∧ K.H (Below w.heap.size w wr) ∧ K.H (R = ris (l.drop (k - 1)))) (fun i _ => l.length - (intOf i).toNat)
      case atStart => exact ⟨0, by omega, rfl, Hw1, HR0⟩
      case round =>
        obtain ⟨k, hk, rfl, Hb, HR⟩ := hrel
        have hsz := Hb.out.size
        by_cases hlt : k < l.length
        · obtain ⟨x, hx⟩ : ∃ x, l[k]? = some x := ⟨_, List.getElem?_eq_getElem hlt⟩
          have HX := K.H.mk hx
          obtain ⟨b, off, rfl, hbl, hbc⟩ := Sl.Rds.elem Hr.out Bk.cs_len (by omega) hx
          have q_0 : wr.cell? ⟨b, off + k * 2, none⟩ = some (.int .i64 x.id) := (Hb.out.cell (p := ⟨b, off + k * 2 + 0, none⟩) hbl).trans (hbc 0 (by omega))
          have q_1 : wr.cell? ⟨b, off + k * 2 + 1, none⟩ = some (.int .i64 x.wt) := (Hb.out.cell (p := ⟨b, off + k * 2 + 1, none⟩) hbl).trans (hbc 1 (by omega))
          clear hbc
          have hbw : b < wr.heap.size := Nat.lt_of_lt_of_le hbl Hb.out.size
          have hkl : (k : Int) < (l.length : Int) := by omega
          by_cases h0 : k = 0
          · subst h0
            have HN := K.H.mk (show R = ris (l.drop (0 + 1 - 1)) from HR.out)
            simp only [Nat.zero_mul, Nat.add_zero] at q_0 q_1
            clear hx HR HX
            go_wp2
            refine K.wp_region_ext_lit (by kernel_rfl) (by kernel_rfl) ?_
            repeat (any_goals (first | go_big_quiet_skip | quiet_step (fail) | (refine wpQuiet_step (fun K hK => ?_); go_simp; split <;> (refine hK _ ?_; clear hK K))))
            all_goals (refine wpQuiet_nil ?_; intro W9 hW9; obtain ⟨hB9, hC9, hF9, hZ9⟩ := K.ext_facts hW9; clear hW9)
            all_goals go_wp2
            all_goals
              go_roundw
              case rel => exact ⟨0 + 1, by omega, by go_num, ⟨(by repeat (first | (with_reducible exact Below.refl _ _) | (with_reducible exact Hb.out) | (with_reducible refine K.b_bel ?_ (by assumption)) | (with_reducible refine K.b_alloc ?_ _) | (with_reducible refine K.b_drewN ?_ _) | (with_reducible refine K.b_drew ?_) | (with_reducible refine K.b_set ?_ (by first | omega | (simp <;> omega)) _) | (with_reducible refine K.b_only ?_ (by assumption) (by first | omega | (simp <;> omega)))))⟩, HN⟩
              case measure => simp [intOf]; omega
          · obtain ⟨y, hy⟩ : ∃ y, l[k - 1]? = some y := ⟨_, List.getElem?_eq_getElem (by omega)⟩
            have HS := K.H.mk (ris_step (by omega) hx hy)
            obtain ⟨b2, off2, hee2, hbl2, hbc2⟩ := Sl.Rds.elem Hr.out Bk.cs_len (by omega) hy
            cases hee2
            have q2_0 : wr.cell? ⟨b, off + (k - 1) * 2, none⟩ = some (.int .i64 y.id) := (Hb.out.cell (p := ⟨b, off + (k - 1) * 2 + 0, none⟩) hbl2).trans (hbc2 0 (by omega))
            have q2_1 : wr.cell? ⟨b, off + (k - 1) * 2 + 1, none⟩ = some (.int .i64 y.wt) := (Hb.out.cell (p := ⟨b, off + (k - 1) * 2 + 1, none⟩) hbl2).trans (hbc2 1 (by omega))
            clear hbc2
            have d0 : decide ((0 : Int) < (k : Int)) = true := decide_eq_true (by omega)
            have d0n : decide (0 < k) = true := decide_eq_true (by omega)
            have hw1 : IntKind.i64.wrap ((k : Int) - 1) = ((k - 1 : Nat) : Int) := by rw [K.i64_in (by omega) (by omega)]; omega
            have hi1 : ((k - 1 : Nat) : Int) < l.length := by omega
            have hi0 : (0 : Int) ≤ ((k - 1 : Nat) : Int) := by omega
            by_cases hxt : x.id ≤ y.id
            · have dd : decide (x.id ≤ y.id) = true := decide_eq_true hxt
              have HN := K.H.mk (show R = false by rw [HR.out, HS.out, decide_eq_false (by omega), Bool.false_and])
              clear HS HR HX hx hy h0 hxt
              go_wp2
              refine K.wp_region_ext_lit (by kernel_rfl) (by kernel_rfl) ?_
              repeat (any_goals (first | go_big_quiet_skip | quiet_step (fail) | (refine wpQuiet_step (fun K hK => ?_); go_simp; split <;> (refine hK _ ?_; clear hK K))))
              all_goals (refine wpQuiet_nil ?_; intro W9 hW9; obtain ⟨hB9, hC9, hF9, hZ9⟩ := K.ext_facts hW9; clear hW9)
              all_goals go_wp2
              all_goals (go_ret; exact ⟨K.ret_int (by rw [HT.out, HN.out]; rfl), (by repeat (first | (with_reducible exact Below.refl _ _) | (with_reducible exact Hb.out) | (with_reducible refine K.b_bel ?_ (by assumption)) | (with_reducible refine K.b_alloc ?_ _) | (with_reducible refine K.b_drewN ?_ _) | (with_reducible refine K.b_drew ?_) | (with_reducible refine K.b_set ?_ (by first | omega | (simp <;> omega)) _) | (with_reducible refine K.b_only ?_ (by assumption) (by first | omega | (simp <;> omega)))))⟩)
            · have dd : decide (x.id ≤ y.id) = false := decide_eq_false hxt
              have HN := K.H.mk (show R = ris (l.drop (k + 1 - 1)) by rw [HR.out, HS.out, decide_eq_true (by omega), Bool.true_and]; rfl)
              clear HS HR HX hx hy h0 hxt
              go_wp2
              refine K.wp_region_ext_lit (by kernel_rfl) (by kernel_rfl) ?_
              repeat (any_goals (first | go_big_quiet_skip | quiet_step (fail) | (refine wpQuiet_step (fun K hK => ?_); go_simp; split <;> (refine hK _ ?_; clear hK K))))
              all_goals (refine wpQuiet_nil ?_; intro W9 hW9; obtain ⟨hB9, hC9, hF9, hZ9⟩ := K.ext_facts hW9; clear hW9)
              all_goals go_wp2
              all_goals
                go_roundw
                case rel => exact ⟨k + 1, by omega, by go_num, ⟨(by repeat (first | (with_reducible exact Below.refl _ _) | (with_reducible exact Hb.out) | (with_reducible refine K.b_bel ?_ (by assumption)) | (with_reducible refine K.b_alloc ?_ _) | (with_reducible refine K.b_drewN ?_ _) | (with_reducible refine K.b_drew ?_) | (with_reducible refine K.b_set ?_ (by first | omega | (simp <;> omega)) _) | (with_reducible refine K.b_only ?_ (by assumption) (by first | omega | (simp <;> omega)))))⟩, HN⟩
                case measure => simp [intOf]; omega
        · obtain rfl : k = l.length := by omega
          have HN := K.H.mk (show R = true by rw [HR.out, ris_last])
          clear HR
          go_wp2
          go_ret
          exact ⟨K.ret_int (by rw [HT.out, HN.out]; rfl), (by repeat (first | (with_reducible exact Below.refl _ _) | (with_reducible exact Hb.out) | (with_reducible refine K.b_bel ?_ (by assumption)) | (with_reducible refine K.b_alloc ?_ _) | (with_reducible refine K.b_drewN ?_ _) | (with_reducible refine K.b_drew ?_) | (with_reducible refine K.b_set ?_ (by first | omega | (simp <;> omega)) _) | (with_reducible refine K.b_only ?_ (by assumption) (by first | omega | (simp <;> omega)))))⟩
    · rw [ho] at GA
      rw [eChk_4 hl ho]
      clear ho hl
      go_enter Try.func23, Try.ntmps23
      go_wp2_with (first | (go_at_call 41; (with_reducible refine (GA.out _ (by repeat (first | (with_reducible exact Below.refl _ _) | (with_reducible refine K.b_bel ?_ (by assumption)) | (with_reducible refine K.b_alloc ?_ _) | (with_reducible refine K.b_drewN ?_ _) | (with_reducible refine K.b_drew ?_) | (with_reducible refine K.b_set ?_ (by first | omega | (simp <;> omega)) _) | (with_reducible refine K.b_only ?_ (by assumption) (by first | omega | (simp <;> omega)))))).mono ?_); rintro e W1 ⟨rfl, hb1⟩; obtain ⟨hB1, hC1, hF1, hZ1⟩ := K.bel_facts hb1; clear hb1))
      go_ret
      exact ⟨rfl, (by repeat (first | (with_reducible exact Below.refl _ _) | (with_reducible refine K.b_bel ?_ (by assumption)) | (with_reducible refine K.b_alloc ?_ _) | (with_reducible refine K.b_drewN ?_ _) | (with_reducible refine K.b_drew ?_) | (with_reducible refine K.b_set ?_ (by first | omega | (simp <;> omega)) _) | (with_reducible refine K.b_only ?_ (by assumption) (by first | omega | (simp <;> omega)))))⟩
end Go.Proofs.Ytkalbiihehcjkaa.Rg
