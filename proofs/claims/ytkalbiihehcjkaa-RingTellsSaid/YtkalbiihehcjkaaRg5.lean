/- Ring: Check: the reference's. -/
import Derived.Test.YtkalbiihehcjkaaRg4
set_option linter.unusedVariables false
namespace Go.Proofs.Ytkalbiihehcjkaa.Rg
open Go.RowKit Go.Proofs.Ytkalbiihehcjkaa
set_option linter.unusedSimpArgs false
set_option maxRecDepth 100000 in
set_option maxHeartbeats 8000000 in
theorem rCheck_c (l : List Bk) (A : Option Addr) (n c : Nat) (w : World) (hr : Sl.Rds w 2 A n (l.flatMap Bk.cs)) :
    Calls Try.prog 24 #[.slice A n c] w fun e w' => e = .returned (.int .i64 (eChk l)) ∧ Below w.heap.size w w' := by
  obtain rfl := hr.length Bk.cs_len (by omega)
  have hle := hr.le
  have Hr := K.H.mk hr
  clear hr
  by_cases hl : 32 < l.length
  · rw [eChk_3 hl]
    have d1 : decide ((32 : Int) < (l.length : Int)) = true := decide_eq_true (by omega)
    have d2 : decide (32 < l.length) = true := decide_eq_true hl
    clear hl
    go_enter Try.func24, Try.ntmps24
    go_wp2
    go_ret
    exact ⟨rfl, (by repeat (first | (with_reducible exact Below.refl _ _) | (with_reducible refine K.b_bel ?_ (by assumption)) | (with_reducible refine K.b_alloc ?_ _) | (with_reducible refine K.b_drewN ?_ _) | (with_reducible refine K.b_drew ?_) | (with_reducible refine K.b_set ?_ (by first | omega | (simp <;> omega)) _) | (with_reducible refine K.b_only ?_ (by assumption) (by first | omega | (simp <;> omega)))))⟩
  · have d1 : decide ((32 : Int) < (l.length : Int)) = false := decide_eq_false (by omega)
    have d2 : decide (32 < l.length) = false := decide_eq_false hl
    obtain ⟨T, hT⟩ : ∃ T : Int, T = eChk l := ⟨_, rfl⟩
    rw [← hT]
    have HT := K.H.mk hT
    have HL := K.H.mk hl
    clear hl hT
    go_enter Try.func24, Try.ntmps24
    go_wp2
    clear d1 d2
    go_loopw [3] (fun i wr => ∃ k : Nat, k ≤ l.length ∧ i = .int .i64 k ∧ K.H (Below w.heap.size w wr) ∧ K.H (∀ j y, j < k → l[j]? = some y → y.odd = false)) (fun i _ => l.length - (intOf i).toNat)
    case atStart => exact ⟨0, by omega, rfl, ⟨Below.refl _ _⟩, ⟨fun j y h => by omega⟩⟩
    case round =>
      obtain ⟨k, hk, rfl, Hb, Hf⟩ := hrel
      have hsz := Hb.out.size
      by_cases hlt : k < l.length
      · obtain ⟨x, hx⟩ : ∃ x, l[k]? = some x := ⟨_, List.getElem?_eq_getElem hlt⟩
        have HX := K.H.mk hx
        obtain ⟨b, off, rfl, hbl, hbc⟩ := Sl.Rds.elem Hr.out Bk.cs_len (by omega) hx
        have q_0 : wr.cell? ⟨b, off + k * 2, none⟩ = some (.int .i64 x.id) := (Hb.out.cell (p := ⟨b, off + k * 2 + 0, none⟩) hbl).trans (hbc 0 (by omega))
        have q_1 : wr.cell? ⟨b, off + k * 2 + 1, none⟩ = some (.int .i64 x.wt) := (Hb.out.cell (p := ⟨b, off + k * 2 + 1, none⟩) hbl).trans (hbc 1 (by omega))
        clear hbc
        have hbw : b < wr.heap.size := Nat.lt_of_lt_of_le hbl Hb.out.size
        have hkl : (k : Int) < (l.length : Int) := by omega
        have HO := K.H.mk (show x.odd = (decide (x.id < 0) || decide (2147483647 < x.id) || decide (x.wt < 1) || decide (16 < x.wt)) from rfl)
        clear hx
        cases d1 : decide (x.id < 0) <;> cases d2 : decide (2147483647 < x.id) <;> cases d3 : decide (x.wt < 1) <;> cases d4 : decide (16 < x.wt)
        case false.false.false.false =>
          have HN : K.H (∀ j y, j < k + 1 → l[j]? = some y → y.odd = false) := ⟨fun j y hj hy => by
            by_cases he : j = k
            · subst he
              rw [HX.out] at hy; cases hy
              rw [HO.out, d1, d2, d3, d4]; rfl
            · exact Hf.out j y (by omega) hy⟩
          clear HO HX Hf
          go_wp2
          go_roundw
          case rel => exact ⟨k + 1, by omega, by go_num, ⟨(by repeat (first | (with_reducible exact Below.refl _ _) | (with_reducible exact Hb.out) | (with_reducible refine K.b_bel ?_ (by assumption)) | (with_reducible refine K.b_alloc ?_ _) | (with_reducible refine K.b_drewN ?_ _) | (with_reducible refine K.b_drew ?_) | (with_reducible refine K.b_set ?_ (by first | omega | (simp <;> omega)) _) | (with_reducible refine K.b_only ?_ (by assumption) (by first | omega | (simp <;> omega)))))⟩, HN⟩
          case measure => simp [intOf]; omega
        all_goals
          have HN := K.H.mk (show T = 4 by
            rw [HT.out]
            refine eChk_4 HL.out ?_
            unfold Sl.anyOf
            rw [List.any_eq_true]
            exact ⟨x, List.mem_of_getElem? HX.out, by rw [HO.out, d1, d2, d3, d4]; rfl⟩)
          clear HO HX Hf HT
          go_wp2
          go_ret
          exact ⟨K.ret_int HN.out.symm, (by repeat (first | (with_reducible exact Below.refl _ _) | (with_reducible exact Hb.out) | (with_reducible refine K.b_bel ?_ (by assumption)) | (with_reducible refine K.b_alloc ?_ _) | (with_reducible refine K.b_drewN ?_ _) | (with_reducible refine K.b_drew ?_) | (with_reducible refine K.b_set ?_ (by first | omega | (simp <;> omega)) _) | (with_reducible refine K.b_only ?_ (by assumption) (by first | omega | (simp <;> omega)))))⟩
      · obtain rfl : k = l.length := by omega
        have HV := K.H.mk (show T = if ris l = true then 0 else 6 by
          rw [HT.out]
          refine eChk_r HL.out ?_
          cases ho : Sl.anyOf Bk.odd l
          · rfl
          · obtain ⟨x, hx, hxo⟩ := Sl.anyOf_true ho
            obtain ⟨j, hj, rfl⟩ := List.mem_iff_getElem.1 hx
            have := Hf.out j _ hj (List.getElem?_eq_getElem hj)
            rw [this] at hxo; cases hxo)
        obtain ⟨R, hR⟩ : ∃ R, R = ris l := ⟨_, rfl⟩
        rw [← hR] at HV
        have HR0 := K.H.mk hR
        have Hw1 := Hb
        clear hR Hf HT Hb hlt hk hsz
        go_wp2
        go_loopw [4] (fun i wr => ∃ k : Nat, 1 ≤ k ∧ (k ≤ l.length ∨ k = 1) ∧ i = .int .i64 k ∧ K.H (Below w.heap.size w wr) ∧ K.H (R = ris (l.drop (k - 1)))) (fun i _ => l.length - (intOf i).toNat)
        case atStart => exact ⟨1, by omega, by omega, rfl, Hw1, HR0⟩
        case round =>
          clear Hw1 HR0
          obtain ⟨k, hk1, hk, rfl, Hb, HR⟩ := hrel
          have hsz := Hb.out.size
          by_cases hlt : k < l.length
          · obtain ⟨x, hx⟩ : ∃ x, l[k]? = some x := ⟨_, List.getElem?_eq_getElem hlt⟩
            obtain ⟨b, off, rfl, hbl, hbc⟩ := Sl.Rds.elem Hr.out Bk.cs_len (by omega) hx
            have q_0 : wr.cell? ⟨b, off + k * 2, none⟩ = some (.int .i64 x.id) := (Hb.out.cell (p := ⟨b, off + k * 2 + 0, none⟩) hbl).trans (hbc 0 (by omega))
            have q_1 : wr.cell? ⟨b, off + k * 2 + 1, none⟩ = some (.int .i64 x.wt) := (Hb.out.cell (p := ⟨b, off + k * 2 + 1, none⟩) hbl).trans (hbc 1 (by omega))
            clear hbc
            have hbw : b < wr.heap.size := Nat.lt_of_lt_of_le hbl Hb.out.size
            have hkl : (k : Int) < (l.length : Int) := by omega
            obtain ⟨y, hy⟩ : ∃ y, l[k - 1]? = some y := ⟨_, List.getElem?_eq_getElem (by omega)⟩
            have HS := K.H.mk (ris_step (by omega) hx hy)
            obtain ⟨b2, off2, hee2, hbl2, hbc2⟩ := Sl.Rds.elem Hr.out Bk.cs_len (by omega) hy
            cases hee2
            have q2_0 : wr.cell? ⟨b, off + (k - 1) * 2, none⟩ = some (.int .i64 y.id) := (Hb.out.cell (p := ⟨b, off + (k - 1) * 2 + 0, none⟩) hbl2).trans (hbc2 0 (by omega))
            have q2_1 : wr.cell? ⟨b, off + (k - 1) * 2 + 1, none⟩ = some (.int .i64 y.wt) := (Hb.out.cell (p := ⟨b, off + (k - 1) * 2 + 1, none⟩) hbl2).trans (hbc2 1 (by omega))
            clear hbc2
            have hw1 : IntKind.i64.wrap ((k : Int) - 1) = ((k - 1 : Nat) : Int) := by rw [K.i64_in (by omega) (by omega)]; omega
            have hi1 : ((k - 1 : Nat) : Int) < l.length := by omega
            have hi0 : (0 : Int) ≤ ((k - 1 : Nat) : Int) := by omega
            by_cases hxt : x.id ≤ y.id
            · have dd : decide (x.id ≤ y.id) = true := decide_eq_true hxt
              have HN := K.H.mk (show T = 6 by rw [HV.out, HR.out, HS.out, decide_eq_false (by omega), Bool.false_and]; rfl)
              clear HS HR HV hx hy hxt
              go_wp2
              refine K.wp_region_ext_lit (by kernel_rfl) (by kernel_rfl) ?_
              repeat (any_goals (first | go_big_quiet_skip | quiet_step (fail) | (refine wpQuiet_step (fun K hK => ?_); go_simp; split <;> (refine hK _ ?_; clear hK K))))
              all_goals (refine wpQuiet_nil ?_; intro W9 hW9; obtain ⟨hB9, hC9, hF9, hZ9⟩ := K.ext_facts hW9; clear hW9)
              all_goals go_wp2
              all_goals (go_ret; exact ⟨K.ret_int HN.out.symm, (by repeat (first | (with_reducible exact Below.refl _ _) | (with_reducible exact Hb.out) | (with_reducible refine K.b_bel ?_ (by assumption)) | (with_reducible refine K.b_alloc ?_ _) | (with_reducible refine K.b_drewN ?_ _) | (with_reducible refine K.b_drew ?_) | (with_reducible refine K.b_set ?_ (by first | omega | (simp <;> omega)) _) | (with_reducible refine K.b_only ?_ (by assumption) (by first | omega | (simp <;> omega)))))⟩)
            · have dd : decide (x.id ≤ y.id) = false := decide_eq_false hxt
              have HN := K.H.mk (show R = ris (l.drop (k + 1 - 1)) by rw [HR.out, HS.out, decide_eq_true (by omega), Bool.true_and]; rfl)
              clear HS HR hx hy hxt
              go_wp2
              refine K.wp_region_ext_lit (by kernel_rfl) (by kernel_rfl) ?_
              repeat (any_goals (first | go_big_quiet_skip | quiet_step (fail) | (refine wpQuiet_step (fun K hK => ?_); go_simp; split <;> (refine hK _ ?_; clear hK K))))
              all_goals (refine wpQuiet_nil ?_; intro W9 hW9; obtain ⟨hB9, hC9, hF9, hZ9⟩ := K.ext_facts hW9; clear hW9)
              all_goals go_wp2
              all_goals
                go_roundw
                case rel => exact ⟨k + 1, by omega, .inl (by omega), by go_num, ⟨(by repeat (first | (with_reducible exact Below.refl _ _) | (with_reducible exact Hb.out) | (with_reducible refine K.b_bel ?_ (by assumption)) | (with_reducible refine K.b_alloc ?_ _) | (with_reducible refine K.b_drewN ?_ _) | (with_reducible refine K.b_drew ?_) | (with_reducible refine K.b_set ?_ (by first | omega | (simp <;> omega)) _) | (with_reducible refine K.b_only ?_ (by assumption) (by first | omega | (simp <;> omega)))))⟩, HN⟩
                case measure => simp [intOf]; omega
          · have HN := K.H.mk (show T = 0 by
              rw [HV.out, HR.out]
              rcases hk with h | h
              · rw [show k = l.length by omega, ris_last]; rfl
              · subst h
                have : l.length - 1 = 0 := by omega
                have h2 := ris_last l
                rw [this] at h2
                rw [h2]; rfl)
            have d9 : decide ((k : Int) < (l.length : Int)) = false := decide_eq_false (by omega)
            have d9n : decide (k < l.length) = false := decide_eq_false hlt
            clear HR HV
            go_wp2
            go_ret
            exact ⟨K.ret_int HN.out.symm, (by repeat (first | (with_reducible exact Below.refl _ _) | (with_reducible exact Hb.out) | (with_reducible refine K.b_bel ?_ (by assumption)) | (with_reducible refine K.b_alloc ?_ _) | (with_reducible refine K.b_drewN ?_ _) | (with_reducible refine K.b_drew ?_) | (with_reducible refine K.b_set ?_ (by first | omega | (simp <;> omega)) _) | (with_reducible refine K.b_only ?_ (by assumption) (by first | omega | (simp <;> omega)))))⟩
end Go.Proofs.Ytkalbiihehcjkaa.Rg
