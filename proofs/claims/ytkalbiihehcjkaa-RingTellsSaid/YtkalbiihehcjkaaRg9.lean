/- Ring: Whole: the reference's. -/
import Derived.Test.YtkalbiihehcjkaaRg8
set_option linter.unusedVariables false
namespace Go.Proofs.Ytkalbiihehcjkaa.Rg
open Go.RowKit Go.Proofs.Ytkalbiihehcjkaa
set_option linter.unusedSimpArgs false
def okTo (l : List Pt) (k : Nat) : Prop := (∀ (j : Nat) (y : Pt), j < k → l[j]? = some y → y.neg = false) ∧ ∀ (j : Nat) (x y : Pt), j + 1 < k → l[j + 1]? = some x → l[j]? = some y → y.le x = true
theorem okTo_all {l : List Pt} (hl : ¬ 1024 < l.length) (h : okTo l l.length) : wChk l = 0 := by
  refine wChk_0 hl ((ord_iff l).2 fun j x y hx hy => h.2 j x y (List.getElem?_eq_some_iff.1 hx).1 hx hy) ?_
  cases ho : Sl.anyOf Pt.neg l
  · rfl
  · obtain ⟨x, hx, hxo⟩ := Sl.anyOf_true ho
    obtain ⟨j, hj, rfl⟩ := List.mem_iff_getElem.1 hx
    have := h.1 j _ hj (List.getElem?_eq_getElem hj)
    rw [this] at hxo; cases hxo
theorem bad_neg {l : List Pt} {k : Nat} {x : Pt} (hl : ¬ 1024 < l.length) (hx : l[k]? = some x) (h : x.neg = true) : wChk l = 9 :=
  wChk_9 hl (.inr (by unfold Sl.anyOf; rw [List.any_eq_true]; exact ⟨x, List.mem_of_getElem? hx, h⟩))
theorem bad_ord {l : List Pt} {k : Nat} {x y : Pt} (hl : ¬ 1024 < l.length) (h0 : 0 < k) (hx : l[k]? = some x) (hy : l[k - 1]? = some y) (h : y.le x = false) : wChk l = 9 :=
  wChk_9 hl (.inl (by
    cases ho : ord l
    · rfl
    · have := (ord_iff l).1 ho (k - 1) x y (by rw [show k - 1 + 1 = k by omega]; exact hx) hy
      rw [h] at this; cases this))
theorem okTo_step {l : List Pt} {k : Nat} {x : Pt} (h : okTo l k) (hx : l[k]? = some x) (hn : x.neg = false) (hle : k = 0 ∨ ∃ y, l[k - 1]? = some y ∧ y.le x = true) : okTo l (k + 1) := by
  refine ⟨fun j y hj hy => ?_, fun j x2 y2 hj hx2 hy2 => ?_⟩
  · by_cases he : j = k
    · subst he; rw [hx] at hy; cases hy; exact hn
    · exact h.1 j y (by omega) hy
  · by_cases he : j + 1 = k
    · rcases hle with h0 | ⟨y, hy, hyx⟩
      · omega
      · rw [he, hx] at hx2
        rw [show j = k - 1 by omega, hy] at hy2
        cases hx2; cases hy2; exact hyx
    · exact h.2 j x2 y2 (by omega) hx2 hy2
set_option maxRecDepth 100000 in
set_option maxHeartbeats 8000000 in
theorem rWhole_c (l : List Pt) (A : Option Addr) (n c : Nat) (w : World) (hr : Sl.Rds w 2 A n (l.flatMap Pt.cs)) :
    Calls Try.prog 25 #[.slice A n c] w fun e w' => e = .returned (.int .i64 (wChk l)) ∧ Below w.heap.size w w' := by
  obtain rfl := hr.length Pt.cs_len (by omega)
  have hle := hr.le
  have Hr := K.H.mk hr
  clear hr
  by_cases hl : 1024 < l.length
  · rw [wChk_3 hl]
    have d1 : decide ((1024 : Int) < (l.length : Int)) = true := decide_eq_true (by omega)
    have d2 : decide (1024 < l.length) = true := decide_eq_true hl
    clear hl
    go_enter Try.func25, Try.ntmps25
    go_wp2
    go_ret
    exact ⟨rfl, (by repeat (first | (with_reducible exact Below.refl _ _) | (with_reducible refine K.b_bel ?_ (by assumption)) | (with_reducible refine K.b_alloc ?_ _) | (with_reducible refine K.b_drewN ?_ _) | (with_reducible refine K.b_drew ?_) | (with_reducible refine K.b_set ?_ (by first | omega | (simp <;> omega)) _) | (with_reducible refine K.b_only ?_ (by assumption) (by first | omega | (simp <;> omega)))))⟩
  · have d1 : decide ((1024 : Int) < (l.length : Int)) = false := decide_eq_false (by omega)
    have d2 : decide (1024 < l.length) = false := decide_eq_false hl
    obtain ⟨T, hT⟩ : ∃ T : Int, T = wChk l := ⟨_, rfl⟩
    rw [← hT]
    have HT := K.H.mk hT
    have HL := K.H.mk hl
    clear hl hT
    go_enter Try.func25, Try.ntmps25
    go_wp2
    clear d1 d2
    go_loopw [3] (fun i wr => ∃ k : Nat, k ≤ l.length ∧ i = .int .i64 k ∧ K.H (Below w.heap.size w wr) ∧ K.H (okTo l k)) (fun i _ => l.length - (intOf i).toNat)
    case atStart => exact ⟨0, by omega, rfl, ⟨Below.refl _ _⟩, ⟨⟨fun j y h => by omega, fun j x y h => by omega⟩⟩⟩
    case round =>
      obtain ⟨k, hk, rfl, Hb, Hf⟩ := hrel
      have hsz := Hb.out.size
      by_cases hlt : k < l.length
      · obtain ⟨x, hx⟩ : ∃ x, l[k]? = some x := ⟨_, List.getElem?_eq_getElem hlt⟩
        have HX := K.H.mk hx
        obtain ⟨b, off, rfl, hbl, hbc⟩ := Sl.Rds.elem Hr.out Pt.cs_len (by omega) hx
        have q_0 : wr.cell? ⟨b, off + k * 2, none⟩ = some (.int .u64 x.h) := (Hb.out.cell (p := ⟨b, off + k * 2 + 0, none⟩) hbl).trans (hbc 0 (by omega))
        have q_1 : wr.cell? ⟨b, off + k * 2 + 1, none⟩ = some (.int .i64 x.i) := (Hb.out.cell (p := ⟨b, off + k * 2 + 1, none⟩) hbl).trans (hbc 1 (by omega))
        clear hbc
        have hbw : b < wr.heap.size := Nat.lt_of_lt_of_le hbl Hb.out.size
        have hkl : (k : Int) < (l.length : Int) := by omega
        have HO := K.H.mk (show x.neg = decide (x.i < 0) from rfl)
        clear hx
        cases d1 : decide (x.i < 0)
        · by_cases h0 : k = 0
          · subst h0
            have HN := K.H.mk (okTo_step Hf.out HX.out (by rw [HO.out, d1]) (.inl rfl))
            simp only [Nat.zero_mul, Nat.add_zero] at q_0 q_1
            clear HO HX Hf
            go_wp2
            refine K.wp_region_ext_lit (by kernel_rfl) (by kernel_rfl) ?_
            repeat (any_goals (first | go_big_quiet_skip | quiet_step (fail) | (refine wpQuiet_step (fun K hK => ?_); go_simp; split <;> (refine hK _ ?_; clear hK K))))
            all_goals (refine wpQuiet_nil ?_; intro W9 hW9; obtain ⟨hB9, hC9, hF9, hZ9⟩ := K.ext_facts hW9; clear hW9)
            all_goals go_wp2
            all_goals
              go_roundw
              case rel => exact ⟨0 + 1, by omega, by go_num, ⟨(by repeat (first | (with_reducible exact Below.refl _ _) | (with_reducible exact Hb.out) | (with_reducible refine K.b_bel ?_ (by assumption)) | (with_reducible refine K.b_alloc ?_ _) | (with_reducible refine K.b_drewN ?_ _) | (with_reducible refine K.b_drew ?_) | (with_reducible refine K.b_set ?_ (by first | omega | (simp <;> omega)) _) | (with_reducible refine K.b_only ?_ (by assumption) (by first | omega | (simp <;> omega)))))⟩, HN⟩
              case measure => simp [intOf]; omega
          · obtain ⟨y, hy⟩ : ∃ y, l[k - 1]? = some y := ⟨_, List.getElem?_eq_getElem (by omega)⟩
            have HY := K.H.mk hy
            obtain ⟨b2, off2, hee2, hbl2, hbc2⟩ := Sl.Rds.elem Hr.out Pt.cs_len (by omega) hy
            cases hee2
            have q2_0 : wr.cell? ⟨b, off + (k - 1) * 2, none⟩ = some (.int .u64 y.h) := (Hb.out.cell (p := ⟨b, off + (k - 1) * 2 + 0, none⟩) hbl2).trans (hbc2 0 (by omega))
            have q2_1 : wr.cell? ⟨b, off + (k - 1) * 2 + 1, none⟩ = some (.int .i64 y.i) := (Hb.out.cell (p := ⟨b, off + (k - 1) * 2 + 1, none⟩) hbl2).trans (hbc2 1 (by omega))
            clear hbc2
            have d0 : decide ((0 : Int) < (k : Int)) = true := decide_eq_true (by omega)
            have d0n : decide (0 < k) = true := decide_eq_true (by omega)
            have hw1 : IntKind.i64.wrap ((k : Int) - 1) = ((k - 1 : Nat) : Int) := by rw [K.i64_in (by omega) (by omega)]; omega
            have hi1 : ((k - 1 : Nat) : Int) < l.length := by omega
            have hi0 : (0 : Int) ≤ ((k - 1 : Nat) : Int) := by omega
            have GC := K.H.mk (fun W => behind_c y x W)
            have HB := K.H.mk (beh_le y x)
            clear hy
            cases hbh : y.beh x
            · rw [hbh] at GC
              have HN := K.H.mk (okTo_step Hf.out HX.out (by rw [HO.out, d1]) (.inr ⟨y, HY.out, by
                have := HB.out; rw [hbh] at this
                cases hh : y.le x
                · rw [hh] at this; cases this
                · rfl⟩))
              clear HO HX HY Hf HB hbh h0
              go_wp2
              refine K.wp_region_ext_lit (by kernel_rfl) (by kernel_rfl) ?_
              repeat (any_goals (first | go_big_quiet_skip | quiet_step ((go_at_call 33; first | (with_reducible exact K.q_below (GC.out _)))) | (refine wpQuiet_step (fun K hK => ?_); go_simp; split <;> (refine hK _ ?_; clear hK K))))
              all_goals (refine wpQuiet_nil ?_; intro W9 hW9; obtain ⟨hB9, hC9, hF9, hZ9⟩ := K.ext_facts hW9; clear hW9)
              all_goals go_wp2
              all_goals
                go_roundw
                case rel => exact ⟨k + 1, by omega, by go_num, ⟨(by repeat (first | (with_reducible exact Below.refl _ _) | (with_reducible exact Hb.out) | (with_reducible refine K.b_bel ?_ (by assumption)) | (with_reducible refine K.b_alloc ?_ _) | (with_reducible refine K.b_drewN ?_ _) | (with_reducible refine K.b_drew ?_) | (with_reducible refine K.b_set ?_ (by first | omega | (simp <;> omega)) _) | (with_reducible refine K.b_only ?_ (by assumption) (by first | omega | (simp <;> omega)))))⟩, HN⟩
                case measure => simp [intOf]; omega
            · rw [hbh] at GC
              have HN := K.H.mk (show T = 9 by
                rw [HT.out]
                refine bad_ord HL.out (Nat.pos_of_ne_zero h0) HX.out HY.out ?_
                have := HB.out; rw [hbh] at this
                cases hh : y.le x
                · rfl
                · rw [hh] at this; cases this)
              clear HO HX HY Hf HB HT hbh h0
              go_wp2
              refine K.wp_region_ext_lit (by kernel_rfl) (by kernel_rfl) ?_
              repeat (any_goals (first | go_big_quiet_skip | quiet_step ((go_at_call 33; first | (with_reducible exact K.q_below (GC.out _)))) | (refine wpQuiet_step (fun K hK => ?_); go_simp; split <;> (refine hK _ ?_; clear hK K))))
              all_goals (refine wpQuiet_nil ?_; intro W9 hW9; obtain ⟨hB9, hC9, hF9, hZ9⟩ := K.ext_facts hW9; clear hW9)
              all_goals go_wp2
              all_goals (go_ret; exact ⟨K.ret_int HN.out.symm, (by repeat (first | (with_reducible exact Below.refl _ _) | (with_reducible exact Hb.out) | (with_reducible refine K.b_bel ?_ (by assumption)) | (with_reducible refine K.b_alloc ?_ _) | (with_reducible refine K.b_drewN ?_ _) | (with_reducible refine K.b_drew ?_) | (with_reducible refine K.b_set ?_ (by first | omega | (simp <;> omega)) _) | (with_reducible refine K.b_only ?_ (by assumption) (by first | omega | (simp <;> omega)))))⟩)
        · have HN := K.H.mk (show T = 9 by rw [HT.out]; exact bad_neg HL.out HX.out (by rw [HO.out, d1]))
          clear HO HX Hf HT
          go_wp2
          refine K.wp_region_ext_lit (by kernel_rfl) (by kernel_rfl) ?_
          repeat (any_goals (first | go_big_quiet_skip | quiet_step (fail) | (refine wpQuiet_step (fun K hK => ?_); go_simp; split <;> (refine hK _ ?_; clear hK K))))
          all_goals (refine wpQuiet_nil ?_; intro W9 hW9; obtain ⟨hB9, hC9, hF9, hZ9⟩ := K.ext_facts hW9; clear hW9)
          all_goals go_wp2
          all_goals (go_ret; exact ⟨K.ret_int HN.out.symm, (by repeat (first | (with_reducible exact Below.refl _ _) | (with_reducible exact Hb.out) | (with_reducible refine K.b_bel ?_ (by assumption)) | (with_reducible refine K.b_alloc ?_ _) | (with_reducible refine K.b_drewN ?_ _) | (with_reducible refine K.b_drew ?_) | (with_reducible refine K.b_set ?_ (by first | omega | (simp <;> omega)) _) | (with_reducible refine K.b_only ?_ (by assumption) (by first | omega | (simp <;> omega)))))⟩)
      · obtain rfl : k = l.length := by omega
        have HN := K.H.mk (show T = 0 by rw [HT.out]; exact okTo_all HL.out Hf.out)
        clear HT Hf
        go_wp2
        go_ret
        exact ⟨K.ret_int HN.out.symm, (by repeat (first | (with_reducible exact Below.refl _ _) | (with_reducible exact Hb.out) | (with_reducible refine K.b_bel ?_ (by assumption)) | (with_reducible refine K.b_alloc ?_ _) | (with_reducible refine K.b_drewN ?_ _) | (with_reducible refine K.b_drew ?_) | (with_reducible refine K.b_set ?_ (by first | omega | (simp <;> omega)) _) | (with_reducible refine K.b_only ?_ (by assumption) (by first | omega | (simp <;> omega)))))⟩
end Go.Proofs.Ytkalbiihehcjkaa.Rg
