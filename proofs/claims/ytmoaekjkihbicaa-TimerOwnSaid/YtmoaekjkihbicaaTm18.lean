/- Timer: waybillplain.SameTimers, SameInts. -/
import Derived.Test.YtmoaekjkihbicaaTm9
import Derived.Test.YtmoaekjkihbicaaTm13
import Derived.Test.YtmoaekjkihbicaaSame
set_option linter.unusedVariables false
namespace Go.Proofs.Ytmoaekjkihbicaa.Tm
open Go.RowKit Go.Proofs.Ytmoaekjkihbicaa
set_option linter.unusedSimpArgs false
set_option maxRecDepth 100000 in
set_option maxHeartbeats 2000000 in
theorem sameTm_c (xs ys : List Tm) (A B : Option Addr) (n m c d : Nat) (w : World) (hx : Sl.Rds w 2 A n (xs.flatMap Tm.cs)) (hy : Sl.Rds w 2 B m (ys.flatMap Tm.cs)) :
    Calls Try.prog 18 #[.slice A n c, .slice B m d] w fun e w' => e = .returned (.bool (decide (xs = ys))) ∧ Below w.heap.size w w' := by
  obtain rfl := hx.length Tm.cs_len (by omega)
  obtain rfl := hy.length Tm.cs_len (by omega)
  have hle := hx.le
  have hle2 := hy.le
  have Hx := K.H.mk hx
  have Hy := K.H.mk hy
  clear hx hy
  by_cases hl : xs.length = ys.length
  · have hld : ((xs.length : Int) != (ys.length : Int)) = false := by simp [hl]
    have hl2 : (ys.length : Int) = (xs.length : Int) := by omega
    have Hl := K.H.mk hl
    clear hl
    go_enter Try.func18, Try.ntmps18
    clear hl2
    go_wp2
    clear hld
    go_loopw [5] (fun i wr => ∃ k : Nat, k ≤ xs.length ∧ i = .int .i64 k ∧ K.H (xs.take k = ys.take k) ∧ K.H (Below w.heap.size w wr)) (fun i _ => xs.length - (intOf i).toNat)
    case atStart => exact ⟨0, by omega, rfl, ⟨rfl⟩, ⟨Below.refl _ _⟩⟩
    case round =>
      obtain ⟨k, hk, rfl, Hs, Hb⟩ := hrel
      by_cases hlt : k < xs.length
      · have hlt2 : k < ys.length := by have := Hl.out; omega
        obtain ⟨x, hx⟩ : ∃ x, xs[k]? = some x := ⟨_, List.getElem?_eq_getElem hlt⟩
        obtain ⟨y, hy⟩ : ∃ y, ys[k]? = some y := ⟨_, List.getElem?_eq_getElem hlt2⟩
        obtain ⟨b, off, rfl, hbl, hbc⟩ := Sl.Rds.elem Hx.out Tm.cs_len (by omega) hx
        have q_0 : wr.cell? ⟨b, off + k * 2, none⟩ = some (.int .i64 x.t) := (Hb.out.cell (p := ⟨b, off + k * 2 + 0, none⟩) hbl).trans (hbc 0 (by omega))
        have q_1 : wr.cell? ⟨b, off + k * 2 + 1, none⟩ = some (.int .i64 x.id) := (Hb.out.cell (p := ⟨b, off + k * 2 + 1, none⟩) hbl).trans (hbc 1 (by omega))
        clear hbc
        obtain ⟨b2, off2, rfl, hbl2, hbc2⟩ := Sl.Rds.elem Hy.out Tm.cs_len (by omega) hy
        have q2_0 : wr.cell? ⟨b2, off2 + k * 2, none⟩ = some (.int .i64 y.t) := (Hb.out.cell (p := ⟨b2, off2 + k * 2 + 0, none⟩) hbl2).trans (hbc2 0 (by omega))
        have q2_1 : wr.cell? ⟨b2, off2 + k * 2 + 1, none⟩ = some (.int .i64 y.id) := (Hb.out.cell (p := ⟨b2, off2 + k * 2 + 1, none⟩) hbl2).trans (hbc2 1 (by omega))
        clear hbc2
        have hbw : b < wr.heap.size := Nat.lt_of_lt_of_le hbl Hb.out.size
        have hbw2 : b2 < wr.heap.size := Nat.lt_of_lt_of_le hbl2 Hb.out.size
        have HX := K.H.mk hx
        have HY := K.H.mk hy
        have hq := fun W => Tm.neq x y W
        have hg := fun o p q W => Tm.guard o p q x y W
        clear hx hy
        cases hxy : Tm.same x y
        · rw [hxy] at hq
          have HE := K.H.mk hxy
          clear hxy
          go_wp2
          refine K.wp_region_ext_lit (by kernel_rfl) (by kernel_rfl) ?_
          repeat (any_goals (first | go_big_quiet_skip | quiet_step (fail) | (refine wpQuiet_step (fun K hK => ?_); go_simp; split <;> (refine hK _ ?_; clear hK K))))
          all_goals (refine wpQuiet_nil ?_; intro W9 hW9; obtain ⟨hB9, hC9, hF9, hZ9⟩ := K.ext_facts hW9; clear hW9)
          go_wp2
          have hne : ¬ xs = ys := by
            rintro rfl
            have h1 := HX.out
            rw [HY.out] at h1
            cases h1
            exact (Tm.same_f.1 HE.out) rfl
          go_ret
          exact ⟨K.ret_bool (decide_eq_false hne).symm, (by repeat (first | (with_reducible exact Below.refl _ _) | (with_reducible exact Hb.out) | (with_reducible refine K.b_bel ?_ (by assumption)) | (with_reducible refine K.b_alloc ?_ _) | (with_reducible refine K.b_drewN ?_ _) | (with_reducible refine K.b_drew ?_) | (with_reducible refine K.b_set ?_ (by first | omega | (simp <;> omega)) _) | (with_reducible refine K.b_only ?_ (by assumption) (by first | omega | (simp <;> omega)))))⟩
        · rw [hxy] at hq
          have HE := K.H.mk hxy
          clear hxy
          go_wp2
          refine K.wp_region_ext_lit (by kernel_rfl) (by kernel_rfl) ?_
          repeat (any_goals (first | go_big_quiet_skip | quiet_step (fail) | (refine wpQuiet_step (fun K hK => ?_); go_simp; split <;> (refine hK _ ?_; clear hK K))))
          all_goals (refine wpQuiet_nil ?_; intro W9 hW9; obtain ⟨hB9, hC9, hF9, hZ9⟩ := K.ext_facts hW9; clear hW9)
          go_wp2
          go_roundw
          case rel => exact ⟨k + 1, by omega, by go_num, ⟨Sl.same_step HX.out HY.out Hs.out (Tm.same_iff.1 HE.out)⟩, ⟨(by repeat (first | (with_reducible exact Below.refl _ _) | (with_reducible exact Hb.out) | (with_reducible refine K.b_bel ?_ (by assumption)) | (with_reducible refine K.b_alloc ?_ _) | (with_reducible refine K.b_drewN ?_ _) | (with_reducible refine K.b_drew ?_) | (with_reducible refine K.b_set ?_ (by first | omega | (simp <;> omega)) _) | (with_reducible refine K.b_only ?_ (by assumption) (by first | omega | (simp <;> omega)))))⟩⟩
          case measure => simp [intOf]; omega
      · obtain rfl : k = xs.length := by omega
        have he : xs = ys := by
          have h1 := Hs.out
          rwa [List.take_length, Hl.out, List.take_length] at h1
        go_wp2
        go_ret
        exact ⟨K.ret_bool (decide_eq_true he).symm, Hb.out⟩
  · have hld : ((xs.length : Int) != (ys.length : Int)) = true := by simp; omega
    have hne : ¬ xs = ys := fun e => hl (by rw [e])
    clear hl
    go_enter Try.func18, Try.ntmps18
    go_wp2
    go_ret
    exact ⟨K.ret_bool (decide_eq_false hne).symm, (by repeat (first | (with_reducible exact Below.refl _ _) | (with_reducible refine K.b_bel ?_ (by assumption)) | (with_reducible refine K.b_alloc ?_ _) | (with_reducible refine K.b_drewN ?_ _) | (with_reducible refine K.b_drew ?_) | (with_reducible refine K.b_set ?_ (by first | omega | (simp <;> omega)) _) | (with_reducible refine K.b_only ?_ (by assumption) (by first | omega | (simp <;> omega)))))⟩
set_option maxRecDepth 100000 in
set_option maxHeartbeats 2000000 in
theorem sameI_c (xs ys : List Int) (A B : Option Addr) (n m c d : Nat) (w : World) (hx : Sl.Rds w 1 A n (xs.flatMap enJ)) (hy : Sl.Rds w 1 B m (ys.flatMap enJ)) :
    Calls Try.prog 25 #[.slice A n c, .slice B m d] w fun e w' => e = .returned (.bool (decide (xs = ys))) ∧ Below w.heap.size w w' := by
  obtain rfl := hx.length (fun _ => rfl) (by omega)
  obtain rfl := hy.length (fun _ => rfl) (by omega)
  have hle := hx.le
  have hle2 := hy.le
  have Hx := K.H.mk hx
  have Hy := K.H.mk hy
  clear hx hy
  by_cases hl : xs.length = ys.length
  · have hld : ((xs.length : Int) != (ys.length : Int)) = false := by simp [hl]
    have hl2 : (ys.length : Int) = (xs.length : Int) := by omega
    have Hl := K.H.mk hl
    clear hl
    go_enter Try.func25, Try.ntmps25
    clear hl2
    go_wp2
    clear hld
    go_loopw [5] (fun i wr => ∃ k : Nat, k ≤ xs.length ∧ i = .int .i64 k ∧ K.H (xs.take k = ys.take k) ∧ K.H (Below w.heap.size w wr)) (fun i _ => xs.length - (intOf i).toNat)
    case atStart => exact ⟨0, by omega, rfl, ⟨rfl⟩, ⟨Below.refl _ _⟩⟩
    case round =>
      obtain ⟨k, hk, rfl, Hs, Hb⟩ := hrel
      by_cases hlt : k < xs.length
      · have hlt2 : k < ys.length := by have := Hl.out; omega
        obtain ⟨x, hx⟩ : ∃ x, xs[k]? = some x := ⟨_, List.getElem?_eq_getElem hlt⟩
        obtain ⟨y, hy⟩ : ∃ y, ys[k]? = some y := ⟨_, List.getElem?_eq_getElem hlt2⟩
        obtain ⟨b, off, rfl, hbl, hbc⟩ := Sl.Rds.elem Hx.out (enc := fun n => [.int .i64 n]) (fun _ => rfl) (by omega) hx
        have q_0 : wr.cell? ⟨b, off + k, none⟩ = some (.int .i64 x) := by
          have := (Hb.out.cell (p := ⟨b, off + k * 1 + 0, none⟩) hbl).trans (hbc 0 (by omega))
          simpa using this
        obtain ⟨b2, off2, rfl, hbl2, hbc2⟩ := Sl.Rds.elem Hy.out (enc := fun n => [.int .i64 n]) (fun _ => rfl) (by omega) hy
        have q2_0 : wr.cell? ⟨b2, off2 + k, none⟩ = some (.int .i64 y) := by
          have := (Hb.out.cell (p := ⟨b2, off2 + k * 1 + 0, none⟩) hbl2).trans (hbc2 0 (by omega))
          simpa using this
        have hbw : b < wr.heap.size := Nat.lt_of_lt_of_le hbl Hb.out.size
        have hbw2 : b2 < wr.heap.size := Nat.lt_of_lt_of_le hbl2 Hb.out.size
        have HX := K.H.mk hx
        have HY := K.H.mk hy
        clear hx hy hbc hbc2
        cases hxy : (x != y)
        · skip
          have HE := K.H.mk hxy
          go_wp2
          refine K.wp_region_ext_lit (by kernel_rfl) (by kernel_rfl) ?_
          repeat (any_goals (first | go_big_quiet_skip | quiet_step (fail) | (refine wpQuiet_step (fun K hK => ?_); go_simp; split <;> (refine hK _ ?_; clear hK K))))
          all_goals (refine wpQuiet_nil ?_; intro W9 hW9; obtain ⟨hB9, hC9, hF9, hZ9⟩ := K.ext_facts hW9; clear hW9)
          go_wp2
          go_roundw
          case rel => exact ⟨k + 1, by omega, by go_num, ⟨Sl.same_step HX.out HY.out Hs.out (by have h2 := HE.out; simpa using h2)⟩, ⟨(by repeat (first | (with_reducible exact Below.refl _ _) | (with_reducible exact Hb.out) | (with_reducible refine K.b_bel ?_ (by assumption)) | (with_reducible refine K.b_alloc ?_ _) | (with_reducible refine K.b_drewN ?_ _) | (with_reducible refine K.b_drew ?_) | (with_reducible refine K.b_set ?_ (by first | omega | (simp <;> omega)) _) | (with_reducible refine K.b_only ?_ (by assumption) (by first | omega | (simp <;> omega)))))⟩⟩
          case measure => simp [intOf]; omega
        · skip
          have HE := K.H.mk hxy
          go_wp2
          refine K.wp_region_ext_lit (by kernel_rfl) (by kernel_rfl) ?_
          repeat (any_goals (first | go_big_quiet_skip | quiet_step (fail) | (refine wpQuiet_step (fun K hK => ?_); go_simp; split <;> (refine hK _ ?_; clear hK K))))
          all_goals (refine wpQuiet_nil ?_; intro W9 hW9; obtain ⟨hB9, hC9, hF9, hZ9⟩ := K.ext_facts hW9; clear hW9)
          go_wp2
          have hne : ¬ xs = ys := by
            rintro rfl
            have h1 := HX.out
            rw [HY.out] at h1
            cases h1
            have h2 := HE.out
            simp at h2
          go_ret
          exact ⟨K.ret_bool (decide_eq_false hne).symm, (by repeat (first | (with_reducible exact Below.refl _ _) | (with_reducible exact Hb.out) | (with_reducible refine K.b_bel ?_ (by assumption)) | (with_reducible refine K.b_alloc ?_ _) | (with_reducible refine K.b_drewN ?_ _) | (with_reducible refine K.b_drew ?_) | (with_reducible refine K.b_set ?_ (by first | omega | (simp <;> omega)) _) | (with_reducible refine K.b_only ?_ (by assumption) (by first | omega | (simp <;> omega)))))⟩
      · obtain rfl : k = xs.length := by omega
        have he : xs = ys := by
          have h1 := Hs.out
          rwa [List.take_length, Hl.out, List.take_length] at h1
        go_wp2
        go_ret
        exact ⟨K.ret_bool (decide_eq_true he).symm, Hb.out⟩
  · have hld : ((xs.length : Int) != (ys.length : Int)) = true := by simp; omega
    have hne : ¬ xs = ys := fun e => hl (by rw [e])
    clear hl
    go_enter Try.func25, Try.ntmps25
    go_wp2
    go_ret
    exact ⟨K.ret_bool (decide_eq_false hne).symm, (by repeat (first | (with_reducible exact Below.refl _ _) | (with_reducible refine K.b_bel ?_ (by assumption)) | (with_reducible refine K.b_alloc ?_ _) | (with_reducible refine K.b_drewN ?_ _) | (with_reducible refine K.b_drew ?_) | (with_reducible refine K.b_set ?_ (by first | omega | (simp <;> omega)) _) | (with_reducible refine K.b_only ?_ (by assumption) (by first | omega | (simp <;> omega)))))⟩
end Go.Proofs.Ytmoaekjkihbicaa.Tm
