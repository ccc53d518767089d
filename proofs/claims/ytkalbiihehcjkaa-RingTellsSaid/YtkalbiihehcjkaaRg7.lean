/- Ring: slices.IsSortedFunc at points; the library's Whole. -/
import Derived.Test.YtkalbiihehcjkaaRg6
set_option linter.unusedVariables false
namespace Go.Proofs.Ytkalbiihehcjkaa.Rg
open Go.RowKit Go.Proofs.Ytkalbiihehcjkaa
set_option linter.unusedSimpArgs false
theorem ord_iff : ∀ l : List Pt, ord l = true ↔ ∀ j x y, l[j + 1]? = some x → l[j]? = some y → y.le x = true
  | [] => by simp [ord]
  | [a] => by simp [ord]
  | a :: b :: r => by
    have ih := ord_iff (b :: r)
    unfold ord
    rw [Bool.and_eq_true]
    constructor
    · rintro ⟨h1, h2⟩ j x y hx hy
      cases j with
      | zero => simp at hx hy; subst hx; subst hy; exact h1
      | succ j => exact ih.1 h2 j x y (by simpa using hx) (by simpa using hy)
    · intro h
      exact ⟨h 0 b a rfl rfl, ih.2 fun j x y hx hy => h (j + 1) x y (by simpa using hx) (by simpa using hy)⟩
set_option maxRecDepth 100000 in
set_option maxHeartbeats 4000000 in
theorem IsSorted_c (l : List Pt) (A : Option Addr) (n c : Nat) (w : World) (hr : Sl.Rds w 2 A n (l.flatMap Pt.cs)) :
    Calls Try.prog 30 #[.slice A n c, .func (.func 29) #[] #[]] w fun e w' => e = .returned (.bool (ord l)) ∧ Below w.heap.size w w' := by
  obtain rfl := hr.length Pt.cs_len (by omega)
  have hle := hr.le
  have Hr := K.H.mk hr
  clear hr
  obtain ⟨R, hR⟩ : ∃ R, R = ord l := ⟨_, rfl⟩
  rw [← hR]
  have HR := K.H.mk hR
  clear hR
  have hw0 : IntKind.i64.wrap ((l.length : Int) - 1) = (l.length : Int) - 1 := K.i64_in (by omega) (by omega)
  go_enter Try.func30, Try.ntmps30
  go_wp2
  clear hw0
  go_loopw [5] (fun i wr => ∃ z : Int, -1 ≤ z ∧ z < l.length ∧ i = .int .i64 z ∧ K.H (Below w.heap.size w wr) ∧ K.H (∀ (j : Nat) (x y : Pt), z ≤ (j : Int) → l[j + 1]? = some x → l[j]? = some y → y.le x = true)) (fun i _ => (intOf i).toNat)
  case atStart =>
    refine ⟨(l.length : Int) - 1, by omega, by omega, rfl, ⟨Below.refl _ _⟩, ⟨fun j x y h hx hy => ?_⟩⟩
    have := (List.getElem?_eq_some_iff.1 hx).1
    omega
  case round =>
    obtain ⟨z, hz0, hz1, rfl, Hb, Hf⟩ := hrel
    have hsz := Hb.out.size
    by_cases hlt : 0 < z
    · obtain ⟨k, rfl⟩ := Int.eq_ofNat_of_zero_le (show 0 ≤ z by omega)
      obtain ⟨x, hx⟩ : ∃ x, l[k]? = some x := ⟨_, List.getElem?_eq_getElem (by omega)⟩
      obtain ⟨y, hy⟩ : ∃ y, l[k - 1]? = some y := ⟨_, List.getElem?_eq_getElem (by omega)⟩
      have HX := K.H.mk hx
      have HY := K.H.mk hy
      obtain ⟨b, off, rfl, hbl, hbc⟩ := Sl.Rds.elem Hr.out Pt.cs_len (by omega) hx
      have q_0 : wr.cell? ⟨b, off + k * 2, none⟩ = some (.int .u64 x.h) := (Hb.out.cell (p := ⟨b, off + k * 2 + 0, none⟩) hbl).trans (hbc 0 (by omega))
      have q_1 : wr.cell? ⟨b, off + k * 2 + 1, none⟩ = some (.int .i64 x.i) := (Hb.out.cell (p := ⟨b, off + k * 2 + 1, none⟩) hbl).trans (hbc 1 (by omega))
      clear hbc
      have hbw : b < wr.heap.size := Nat.lt_of_lt_of_le hbl Hb.out.size
      obtain ⟨b2, off2, hee2, hbl2, hbc2⟩ := Sl.Rds.elem Hr.out Pt.cs_len (by omega) hy
      cases hee2
      have q2_0 : wr.cell? ⟨b, off + (k - 1) * 2, none⟩ = some (.int .u64 y.h) := (Hb.out.cell (p := ⟨b, off + (k - 1) * 2 + 0, none⟩) hbl2).trans (hbc2 0 (by omega))
      have q2_1 : wr.cell? ⟨b, off + (k - 1) * 2 + 1, none⟩ = some (.int .i64 y.i) := (Hb.out.cell (p := ⟨b, off + (k - 1) * 2 + 1, none⟩) hbl2).trans (hbc2 1 (by omega))
      clear hbc2
      have hw1 : IntKind.i64.wrap ((k : Int) - 1) = ((k - 1 : Nat) : Int) := by rw [K.i64_in (by omega) (by omega)]; omega
      have hi1 : ((k - 1 : Nat) : Int) < l.length := by omega
      have hi0 : (0 : Int) ≤ ((k - 1 : Nat) : Int) := by omega
      have hkk : 1 ≤ k := by omega
      have GC := K.H.mk (fun W => order_c x y W)
      have HC := K.H.mk (cmp_neg x y)
      generalize x.cmp y = cm at *
      by_cases hc : cm < 0
      · have dd : decide (cm < 0) = true := decide_eq_true hc
        have HN := K.H.mk (show R = false by
          rw [HR.out]
          cases ho : ord l
          · rfl
          · exact absurd ((ord_iff l).1 ho (k - 1) x y (by rw [show k - 1 + 1 = k by omega]; exact HX.out) HY.out) (HC.out.1 hc))
        clear HC HR Hf hx hy hc HX HY
        go_wp2
        refine K.wp_region_ext_lit (by kernel_rfl) (by kernel_rfl) ?_
        repeat (any_goals (first | go_big_quiet_skip | quiet_step ((go_at_call 29; first | (with_reducible exact K.q_below (GC.out _)))) | (refine wpQuiet_step (fun K hK => ?_); go_simp; split <;> (refine hK _ ?_; clear hK K))))
        all_goals (refine wpQuiet_nil ?_; intro W9 hW9; obtain ⟨hB9, hC9, hF9, hZ9⟩ := K.ext_facts hW9; clear hW9)
        all_goals go_wp2
        all_goals (go_ret; exact ⟨K.ret_bool HN.out.symm, (by repeat (first | (with_reducible exact Below.refl _ _) | (with_reducible exact Hb.out) | (with_reducible refine K.b_bel ?_ (by assumption)) | (with_reducible refine K.b_alloc ?_ _) | (with_reducible refine K.b_drewN ?_ _) | (with_reducible refine K.b_drew ?_) | (with_reducible refine K.b_set ?_ (by first | omega | (simp <;> omega)) _) | (with_reducible refine K.b_only ?_ (by assumption) (by first | omega | (simp <;> omega)))))⟩)
      · have dd : decide (cm < 0) = false := decide_eq_false hc
        have HN : K.H (∀ (j : Nat) (x y : Pt), (((k - 1 : Nat) : Int)) ≤ (j : Int) → l[j + 1]? = some x → l[j]? = some y → y.le x = true) := ⟨fun j x2 y2 hj hx2 hy2 => by
          by_cases he : j = k - 1
          · subst he
            rw [show k - 1 + 1 = k by omega, HX.out] at hx2
            rw [HY.out] at hy2
            cases hx2; cases hy2
            exact Classical.byContradiction fun h => hc (HC.out.2 h)
          · exact Hf.out j x2 y2 (by omega) hx2 hy2⟩
        clear HC HR Hf hx hy hc HX HY
        go_wp2
        refine K.wp_region_ext_lit (by kernel_rfl) (by kernel_rfl) ?_
        repeat (any_goals (first | go_big_quiet_skip | quiet_step ((go_at_call 29; first | (with_reducible exact K.q_below (GC.out _)))) | (refine wpQuiet_step (fun K hK => ?_); go_simp; split <;> (refine hK _ ?_; clear hK K))))
        all_goals (refine wpQuiet_nil ?_; intro W9 hW9; obtain ⟨hB9, hC9, hF9, hZ9⟩ := K.ext_facts hW9; clear hW9)
        all_goals go_wp2
        all_goals
          go_roundw
          case rel => exact ⟨((k - 1 : Nat) : Int), by omega, by omega, rfl, ⟨(by repeat (first | (with_reducible exact Below.refl _ _) | (with_reducible exact Hb.out) | (with_reducible refine K.b_bel ?_ (by assumption)) | (with_reducible refine K.b_alloc ?_ _) | (with_reducible refine K.b_drewN ?_ _) | (with_reducible refine K.b_drew ?_) | (with_reducible refine K.b_set ?_ (by first | omega | (simp <;> omega)) _) | (with_reducible refine K.b_only ?_ (by assumption) (by first | omega | (simp <;> omega)))))⟩, HN⟩
          case measure => simp [intOf]; omega
    · have HN := K.H.mk (show R = true by rw [HR.out]; exact (ord_iff l).2 fun j x y hx hy => Hf.out j x y (by omega) hx hy)
      have d9 : decide (0 < z) = false := decide_eq_false hlt
      clear HR Hf
      go_wp2
      go_ret
      exact ⟨K.ret_bool HN.out.symm, (by repeat (first | (with_reducible exact Below.refl _ _) | (with_reducible exact Hb.out) | (with_reducible refine K.b_bel ?_ (by assumption)) | (with_reducible refine K.b_alloc ?_ _) | (with_reducible refine K.b_drewN ?_ _) | (with_reducible refine K.b_drew ?_) | (with_reducible refine K.b_set ?_ (by first | omega | (simp <;> omega)) _) | (with_reducible refine K.b_only ?_ (by assumption) (by first | omega | (simp <;> omega)))))⟩
end Go.Proofs.Ytkalbiihehcjkaa.Rg
