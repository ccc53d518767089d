/- Histograms: Quantile; HistoRises. -/
import Derived.Test.YtimdfnhagjlkoaaHstC
set_option linter.unusedVariables false
namespace Go.Proofs.Ytimdfnhagjlkoaa.Hst
open Go.RowKit Go.Proofs.Ytimdfnhagjlkoaa
attribute [local go_sem] K.max2_int K.min2_int K.max_two K.min_two K.max_three K.min_three
set_option linter.unusedSimpArgs false
/-- The first k + 1 counts are so many, the first k are fewer. -/
def IsAt (l : Int) (xs : List Int) (k : Nat) : Prop := k < xs.length ∧ (xs.take k).sum < l ∧ l ≤ (xs.take (k + 1)).sum
theorem sum_mono {xs : List Int} (h : Sl.anyOf oddc xs = false) : ∀ {j k : Nat}, j ≤ k → (xs.take j).sum ≤ (xs.take k).sum
  | j, 0, hj => by
    obtain rfl : j = 0 := by omega
    exact Int.le_refl _
  | j, k + 1, hj => by
    by_cases e : j = k + 1
    · rw [e]; exact Int.le_refl _
    · refine Int.le_trans (sum_mono h (j := j) (k := k) (by omega)) ?_
      by_cases hk : k < xs.length
      · obtain ⟨x, hx⟩ : ∃ x, xs[k]? = some x := ⟨_, List.getElem?_eq_getElem hk⟩
        rw [sum_take hx]
        have := Sl.anyOf_false h x (List.mem_of_getElem? hx)
        simp [oddc] at this
        omega
      · rw [List.take_of_length_le (by omega), List.take_of_length_le (by omega)]; exact Int.le_refl _
theorem isAt_le {xs : List Int} (h : Sl.anyOf oddc xs = false) {l m : Int} {j k : Nat} (h1 : IsAt l xs j) (h2 : IsAt m xs k) (hlm : l ≤ m) : j ≤ k := by
  apply Classical.byContradiction
  intro hn
  have := sum_mono h (j := k + 1) (k := j) (by omega)
  have a := h1.2.1
  have b := h2.2.2
  omega
open Classical in
noncomputable def qat (l : Int) (xs : List Int) : Nat := if h : ∃ k, IsAt l xs k then Classical.choose h else 0
theorem qat_of {l : Int} {xs : List Int} (h : Sl.anyOf oddc xs = false) {k : Nat} (hk : IsAt l xs k) : qat l xs = k := by
  have hex : ∃ k, IsAt l xs k := ⟨k, hk⟩
  unfold qat
  rw [dif_pos hex]
  have := Classical.choose_spec hex
  exact Nat.le_antisymm (isAt_le h this hk (Int.le_refl _)) (isAt_le h hk this (Int.le_refl _))
set_option maxHeartbeats 1000000 in
theorem q1_c (l x : Int) (g : Nat) (w : World) (hz2 : wrap64 (l - x) = l - x) (h : K.At w g 3 #[.int .i64 l]) : Calls Try.prog 50 #[.int .i64 x, .pointer (some ⟨g, 0, none⟩)] w fun e w' =>
    e = .returned (.bool (decide (l - x ≤ 0))) ∧ K.At w' g 3 #[.int .i64 (l - x)] ∧ w.grownBy w' (some g) := by
  obtain ⟨hc0, hf0, hl0⟩ := K.At.facts h
  go_enter Try.func50, Try.ntmps50
  go_wp2
  all_goals (go_ret; refine ⟨K.ret_bool ?_, (by refine K.At.cast (by repeat (first | (with_reducible exact h) | (with_reducible apply K.At.set) | (with_reducible apply K.At.alloc) | (with_reducible apply K.At.drewN) | (with_reducible apply K.At.drew) | (with_reducible apply K.At.far) | omega | (simp <;> omega))) ?_; simp [*]), (by repeat (first | (with_reducible exact K.o_refl _ _) | (with_reducible refine K.o_only ?_ (by assumption)) | (with_reducible refine K.o_bel ?_ (by assumption)) | (with_reducible refine K.o_alloc ?_ _) | (with_reducible refine K.o_drewN ?_ _) | (with_reducible refine K.o_drew ?_) | (with_reducible refine K.o_set ?_ _ _)))⟩)
  all_goals simp [*]
theorem cell_only {w W : World} {g : Nat} (h : w.grownBy W (some g)) {b : Nat} (hb : b < w.heap.size) (hn : b ≠ g) (o : Nat) : W.cell? ⟨b, o, none⟩ = w.cell? ⟨b, o, none⟩ :=
  World.cell?_of_block (w := w) (h.block b hb (by simpa using hn))
set_option maxHeartbeats 2000000 in
theorem qidx_c (xs : List Int) (l : Int) (g : Nat) (A : Option Addr) (n c : Nat) (w : World) (hr : Sl.Rds w 1 A n (xs.flatMap I1)) (hg : ∀ a, A = some a → a.block ≠ g) (ho : Sl.anyOf oddc xs = false) (hl0 : 0 < l) (hl1 : l ≤ xs.sum) (hln : xs.length ≤ 81)
    (h : K.At w g 3 #[.int .i64 l]) :
    Calls Try.prog 49 #[.slice A n c, .func (.func 50) #[] #[.pointer (some ⟨g, 0, none⟩)]] w fun e w' =>
    e = .returned (.int .i64 (qat l xs)) ∧ w.grownBy w' (some g) := by
  obtain rfl := hr.length (fun _ => rfl) (by omega)
  have hle := hr.le
  have Hr := K.H.mk hr
  have Ho := K.H.mk ho
  have Hg := K.H.mk hg
  have hs0 := (sum_in ho).2
  clear hr ho hg
  go_enter Try.func49, Try.ntmps49
  go_wp2
  go_loopw [8] (fun i wr => ∃ k : Nat, k ≤ xs.length ∧ i = .int .i64 k ∧ (xs.take k).sum < l ∧ K.At wr g 3 #[.int .i64 (l - (xs.take k).sum)] ∧ K.H (w.grownBy wr (some g))) (fun i _ => xs.length - (intOf i).toNat)
  case atStart => exact ⟨0, by omega, rfl, by simpa using hl0, by simpa using h, ⟨K.o_refl _ _⟩⟩
  case round =>
    clear h
    obtain ⟨k, hk, rfl, hs, hA, Hb⟩ := hrel
    by_cases hlt : k < xs.length
    · obtain ⟨x, hx⟩ : ∃ x, xs[k]? = some x := ⟨_, List.getElem?_eq_getElem hlt⟩
      have hxo := Sl.anyOf_false Ho.out x (List.mem_of_getElem? hx)
      have hx2 : 0 ≤ x ∧ x ≤ 1073741824 := by simp [oddc] at hxo; omega
      obtain ⟨b, off, rfl, hbl, hbc⟩ := Sl.Rds.elem Hr.out (enc := I1) (fun _ => rfl) (by omega) hx
      have hbg : b ≠ g := Hg.out ⟨b, off, none⟩ rfl
      have q_0 : wr.cell? ⟨b, off + k, none⟩ = some (.int .i64 x) := by
        have := (cell_only Hb.out hbl hbg (off + k * 1 + 0)).trans (hbc 0 (by omega))
        simpa using this
      have hbw : b < wr.heap.size := Nat.lt_of_lt_of_le hbl Hb.out.size
      have hst := sum_take hx
      have hpos := sum_mono Ho.out (j := 0) (k := k) (by omega)
      simp only [List.take_zero, List.sum_nil] at hpos
      have Hst := K.H.mk hst
      have Hs := K.H.mk hs
      clear hx hxo hbc hst
      generalize hss : (xs.take k).sum = s at *
      have Hss := K.H.mk hss
      clear hss
      by_cases hd : l - s - x ≤ 0
      · have hdd : decide (l - s - x ≤ 0) = true := by simpa using hd
        go_wp2_with (go_at_call 50; (with_reducible refine (q1_c (l - s) x g _ (by simp only [wrap64]; omega) hA).mono ?_); rintro e W7 ⟨rfl, hA7, ho7⟩; have hO7 := K.Only.mk ho7; clear ho7; obtain ⟨hC7, hF7, hZ7⟩ := K.only_facts hO7; obtain ⟨hc7, hf7, hl7⟩ := K.At.facts hA7)
        go_ret
        refine ⟨K.ret_int ?_, K.o_only Hb.out hO7⟩
        rw [qat_of Ho.out (k := k) ⟨hlt, by rw [Hss.out]; exact Hs.out, by rw [Hst.out]; omega⟩]
      · have hdd : decide (l - s - x ≤ 0) = false := by simpa using hd
        go_wp2_with (go_at_call 50; (with_reducible refine (q1_c (l - s) x g _ (by simp only [wrap64]; omega) hA).mono ?_); rintro e W7 ⟨rfl, hA7, ho7⟩; have hO7 := K.Only.mk ho7; clear ho7; obtain ⟨hC7, hF7, hZ7⟩ := K.only_facts hO7; obtain ⟨hc7, hf7, hl7⟩ := K.At.facts hA7)
        go_roundw
        case rel => exact ⟨k + 1, by omega, by go_num, by rw [Hst.out]; omega, by rw [Hst.out, show l - (s + x) = l - s - x by omega]; exact hA7, ⟨K.o_only Hb.out hO7⟩⟩
        case measure => simp [intOf]; omega
    · exfalso
      obtain rfl : k = xs.length := by omega
      rw [List.take_length] at hs
      omega
def want (m t : Int) : Int := (m * t + 999) / 1000
theorem want_in {m t : Int} (hm : 1 ≤ m ∧ m ≤ 1000) (ht : 1 ≤ t) : 1 ≤ want m t ∧ want m t ≤ t := by
  have a : 1 * t ≤ m * t := Int.mul_le_mul_of_nonneg_right hm.1 (by omega)
  have b : m * t ≤ 1000 * t := Int.mul_le_mul_of_nonneg_right hm.2 (by omega)
  unfold want
  omega
theorem want_mono {a b t : Int} (h : a ≤ b) (ht : 0 ≤ t) : want a t ≤ want b t := by
  have : a * t ≤ b * t := Int.mul_le_mul_of_nonneg_right h ht
  unfold want
  omega
theorem qat_is {xs : List Int} {l : Int} (hl0 : 0 < l) (hl1 : l ≤ xs.sum) : ∃ k, IsAt l xs k := by
  suffices hh : ∀ n, n ≤ xs.length → l ≤ (xs.take n).sum → ∃ k, IsAt l xs k from hh xs.length (Nat.le_refl _) (by rw [List.take_length]; exact hl1)
  intro n
  induction n with
  | zero => intro _ h; simp at h; omega
  | succ n ih =>
    intro hn h
    by_cases hc : l ≤ (xs.take n).sum
    · exact ih (by omega) hc
    · exact ⟨n, by omega, by omega, h⟩
theorem qat_lt {xs : List Int} {l : Int} (ho : Sl.anyOf oddc xs = false) (hl0 : 0 < l) (hl1 : l ≤ xs.sum) : qat l xs < xs.length := by
  obtain ⟨k, hk⟩ := qat_is hl0 hl1
  rw [qat_of ho hk]
  exact hk.1
theorem qat_mono {xs : List Int} {l m : Int} (ho : Sl.anyOf oddc xs = false) (hl0 : 0 < l) (hlm : l ≤ m) (hm1 : m ≤ xs.sum) : qat l xs ≤ qat m xs := by
  obtain ⟨k, hk⟩ := qat_is hl0 (show l ≤ xs.sum by omega)
  obtain ⟨j, hj⟩ := qat_is (show 0 < m by omega) hm1
  rw [qat_of ho hk, qat_of ho hj]
  exact isAt_le ho hk hj hlm
theorem tpp_step : ∀ k : Fin 80, tpp (k.val : Int) ≤ tpp ((k.val + 1 : Nat) : Int) := by decide +kernel
theorem tpp_mono : ∀ {j k : Nat}, j ≤ k → k ≤ 80 → tpp (j : Int) ≤ tpp (k : Int)
  | j, 0, h, _ => by
    obtain rfl : j = 0 := by omega
    exact Int.le_refl _
  | j, k + 1, h, h2 => by
    by_cases e : j = k + 1
    · rw [e]; exact Int.le_refl _
    · exact Int.le_trans (tpp_mono (j := j) (k := k) (by omega) (by omega)) (tpp_step ⟨k, by omega⟩)
open Classical in
noncomputable def eQ (xs : List Int) (t m : Int) : Int := if HOk xs t then (if 1 ≤ m ∧ m ≤ 1000 then (if t = 0 then 71 else 0) else 4) else 9
open Classical in
noncomputable def oQ (xs : List Int) (t m : Int) : Int := if eQ xs t m = 0 then tpp (qat (want m t) xs) else 0
theorem q_9 {xs : List Int} {t m : Int} (h : ¬ HOk xs t) : eQ xs t m = 9 ∧ oQ xs t m = 0 := by
  have : eQ xs t m = 9 := if_neg h
  exact ⟨this, by unfold oQ; rw [if_neg (by omega)]⟩
theorem q_4 {xs : List Int} {t m : Int} (h : HOk xs t) (hm : ¬ (1 ≤ m ∧ m ≤ 1000)) : eQ xs t m = 4 ∧ oQ xs t m = 0 := by
  have : eQ xs t m = 4 := by unfold eQ; rw [if_pos h, if_neg hm]
  exact ⟨this, by unfold oQ; rw [if_neg (by omega)]⟩
theorem q_71 {xs : List Int} {t m : Int} (h : HOk xs t) (hm : 1 ≤ m ∧ m ≤ 1000) (ht : t = 0) : eQ xs t m = 71 ∧ oQ xs t m = 0 := by
  have : eQ xs t m = 71 := by unfold eQ; rw [if_pos h, if_pos hm, if_pos ht]
  exact ⟨this, by unfold oQ; rw [if_neg (by omega)]⟩
theorem q_0 {xs : List Int} {t m : Int} (h : HOk xs t) (hm : 1 ≤ m ∧ m ≤ 1000) (ht : t ≠ 0) : eQ xs t m = 0 ∧ oQ xs t m = tpp (qat (want m t) xs) := by
  have : eQ xs t m = 0 := by unfold eQ; rw [if_pos h, if_pos hm, if_neg ht]
  exact ⟨this, by unfold oQ; rw [if_pos this]⟩
theorem hok_in {xs : List Int} {t : Int} (h : HOk xs t) : 0 ≤ t ∧ t ≤ 1073741824 := by
  have := sum_in h.2.1
  rw [h.2.2.1] at this
  exact ⟨this.1, h.2.2.2⟩
set_option maxRecDepth 100000 in
set_option maxHeartbeats 4000000 in
theorem Quantile_c (xs : List Int) (t m : Int) (A : Option Addr) (n c : Nat) (w : World) (hr : Sl.Rds w 1 A n (xs.flatMap I1)) :
    Calls Try.prog 32 #[.agg #[.slice A n c, .int .i64 t], .int .i64 m] w fun e w' => e = .returned (.tuple #[.int .i64 (oQ xs t m), .int .i64 (eQ xs t m)]) ∧ Below w.heap.size w w' := by
  obtain rfl := hr.length (fun _ => rfl) (by omega)
  have hle := hr.le
  have Hr := K.H.mk hr
  have HC : ∀ W, Below w.heap.size w W → Calls Try.prog 42 #[.agg #[.slice A xs.length c, .int .i64 t]] W fun e w' => e = .returned (.int .i64 (eCk xs t)) ∧ Below W.heap.size W w' := fun W hb => Check_c xs t A _ c W (Hr.out.below hb)
  have GC := K.H.mk HC
  clear hr HC
  by_cases h : HOk xs t
  · rw [ck_0 h] at GC
    have ht := hok_in h
    by_cases hm : 1 ≤ m ∧ m ≤ 1000
    · by_cases h0 : t = 0
      · rw [(q_71 h hm h0).1, (q_71 h hm h0).2]
        have ht0 : (t == 0) = true := by simpa using h0
        clear h h0
        go_enter Try.func32, Try.ntmps32
        go_wp2_with (first | (go_at_call 42; (with_reducible refine (GC.out _ (by repeat (first | (with_reducible exact Below.refl _ _) | (with_reducible refine K.b_bel ?_ (by assumption)) | (with_reducible refine K.b_alloc ?_ _) | (with_reducible refine K.b_drewN ?_ _) | (with_reducible refine K.b_drew ?_) | (with_reducible refine K.b_set ?_ (by first | omega | (simp <;> omega)) _) | (with_reducible refine K.b_only ?_ (by assumption) (by first | omega | (simp <;> omega)))))).mono ?_); rintro e W1 ⟨rfl, hb1⟩; obtain ⟨hB1, hC1, hF1, hZ1⟩ := K.bel_facts hb1; clear hb1; have hZZ := hZ1; (try simp at hZZ); have hz1_0 : w.heap.size < W1.heap.size := (by omega); clear hZZ))
        all_goals first | (exfalso; omega) | (go_ret2; exact ⟨rfl, (by repeat (first | (with_reducible exact Below.refl _ _) | (with_reducible refine K.b_bel ?_ (by assumption)) | (with_reducible refine K.b_alloc ?_ _) | (with_reducible refine K.b_drewN ?_ _) | (with_reducible refine K.b_drew ?_) | (with_reducible refine K.b_set ?_ (by first | omega | (simp <;> omega)) _) | (with_reducible refine K.b_only ?_ (by assumption) (by first | omega | (simp <;> omega)))))⟩)
      · rw [(q_0 h hm h0).1, (q_0 h hm h0).2]
        have ht0 : (t == 0) = false := by simpa using h0
        have hw := want_in (t := t) hm (by omega)
        have hsum := h.2.2.1
        have hq := qat_lt h.2.1 (show 0 < want m t by omega) (by omega)
        have hl81 : xs.length ≤ 81 := by have := h.1; omega
        have GT := K.H.mk (fun W => Top_c (qat (want m t) xs) W)
        rw [show eTop (qat (want m t) xs) = 0 by unfold eTop; rw [if_pos (by omega)], show oTop (qat (want m t) xs) = tpp (qat (want m t) xs) by unfold oTop; rw [if_pos (by omega)]] at GT
        have GI := K.H.mk (fun (g : Nat) (W : World) (hb : Below w.heap.size w W) (hg : w.heap.size ≤ g) (hA : K.At W g 3 #[.int .i64 (want m t)]) => qidx_c xs (want m t) g A _ c W (Hr.out.below hb) (fun a ha => by
          obtain ⟨b, off, e, hbl, _⟩ := Hr.out.at_ (by omega)
          rw [e] at ha
          cases ha
          simp only; omega) h.2.1 (by omega) (by omega) hl81 hA)
        have a : 1 * t ≤ m * t := Int.mul_le_mul_of_nonneg_right hm.1 (by omega)
        have b : m * t ≤ 1000 * t := Int.mul_le_mul_of_nonneg_right hm.2 (by omega)
        have hdv : (m * t + 1000 - 1).tdiv 1000 = want m t := by rw [Int.tdiv_eq_ediv_of_nonneg (by omega)]; unfold want; congr 1; omega
        clear h h0 hsum
        generalize tpp (qat (want m t) xs) = y at *
        generalize qat (want m t) xs = k at *
        generalize want m t = v at *
        go_enter Try.func32, Try.ntmps32
        go_wp2_with (first | (go_at_call 42; (with_reducible refine (GC.out _ (by repeat (first | (with_reducible exact Below.refl _ _) | (with_reducible refine K.b_bel ?_ (by assumption)) | (with_reducible refine K.b_alloc ?_ _) | (with_reducible refine K.b_drewN ?_ _) | (with_reducible refine K.b_drew ?_) | (with_reducible refine K.b_set ?_ (by first | omega | (simp <;> omega)) _) | (with_reducible refine K.b_only ?_ (by assumption) (by first | omega | (simp <;> omega)))))).mono ?_); rintro e W1 ⟨rfl, hb1⟩; obtain ⟨hB1, hC1, hF1, hZ1⟩ := K.bel_facts hb1; clear hb1; have hZZ := hZ1; (try simp at hZZ); have hz1_0 : w.heap.size < W1.heap.size := (by omega); clear hZZ) | (go_at_call 31; (with_reducible refine (GT.out _).mono ?_); rintro e w' ⟨rfl, hw'⟩; have hw'2 := Eq.symm hw'; clear hw'; subst hw'2) | (go_at_call 49; (with_reducible refine (GI.out W1.heap.size _ (by repeat (first | (with_reducible exact Below.refl _ _) | (with_reducible refine K.b_bel ?_ (by assumption)) | (with_reducible refine K.b_alloc ?_ _) | (with_reducible refine K.b_drewN ?_ _) | (with_reducible refine K.b_drew ?_) | (with_reducible refine K.b_set ?_ (by first | omega | (simp <;> omega)) _) | (with_reducible refine K.b_only ?_ (by assumption) (by first | omega | (simp <;> omega))))) (by omega) (by refine K.At.cast (by repeat (first | (with_reducible refine K.At.new' _ _ _ _ (by first | rfl | (simp; done) | omega)) | (with_reducible apply K.At.set) | (with_reducible apply K.At.alloc) | (with_reducible apply K.At.drewN) | (with_reducible apply K.At.drew) | (with_reducible apply K.At.far) | omega | (simp <;> omega))) ?_; rfl)).mono ?_); rintro e W2 ⟨rfl, ho2⟩; have hO2 := K.Only.mk ho2; clear ho2; obtain ⟨hC2, hF2, hZ2⟩ := K.only_facts hO2))
        all_goals first | (exfalso; omega) | (go_ret2; exact ⟨rfl, (by repeat (first | (with_reducible exact Below.refl _ _) | (with_reducible refine K.b_bel ?_ (by assumption)) | (with_reducible refine K.b_alloc ?_ _) | (with_reducible refine K.b_drewN ?_ _) | (with_reducible refine K.b_drew ?_) | (with_reducible refine K.b_set ?_ (by first | omega | (simp <;> omega)) _) | (with_reducible refine K.b_only ?_ (by assumption) (by first | omega | (simp <;> omega)))))⟩)
    · rw [(q_4 h hm).1, (q_4 h hm).2]
      clear h
      go_enter Try.func32, Try.ntmps32
      go_wp2_with (first | (go_at_call 42; (with_reducible refine (GC.out _ (by repeat (first | (with_reducible exact Below.refl _ _) | (with_reducible refine K.b_bel ?_ (by assumption)) | (with_reducible refine K.b_alloc ?_ _) | (with_reducible refine K.b_drewN ?_ _) | (with_reducible refine K.b_drew ?_) | (with_reducible refine K.b_set ?_ (by first | omega | (simp <;> omega)) _) | (with_reducible refine K.b_only ?_ (by assumption) (by first | omega | (simp <;> omega)))))).mono ?_); rintro e W1 ⟨rfl, hb1⟩; obtain ⟨hB1, hC1, hF1, hZ1⟩ := K.bel_facts hb1; clear hb1; have hZZ := hZ1; (try simp at hZZ); have hz1_0 : w.heap.size < W1.heap.size := (by omega); clear hZZ))
      all_goals first | (exfalso; omega) | (go_ret2; exact ⟨rfl, (by repeat (first | (with_reducible exact Below.refl _ _) | (with_reducible refine K.b_bel ?_ (by assumption)) | (with_reducible refine K.b_alloc ?_ _) | (with_reducible refine K.b_drewN ?_ _) | (with_reducible refine K.b_drew ?_) | (with_reducible refine K.b_set ?_ (by first | omega | (simp <;> omega)) _) | (with_reducible refine K.b_only ?_ (by assumption) (by first | omega | (simp <;> omega)))))⟩)
  · rw [ck_9 h] at GC
    rw [(q_9 h).1, (q_9 h).2]
    clear h
    go_enter Try.func32, Try.ntmps32
    go_wp2_with (first | (go_at_call 42; (with_reducible refine (GC.out _ (by repeat (first | (with_reducible exact Below.refl _ _) | (with_reducible refine K.b_bel ?_ (by assumption)) | (with_reducible refine K.b_alloc ?_ _) | (with_reducible refine K.b_drewN ?_ _) | (with_reducible refine K.b_drew ?_) | (with_reducible refine K.b_set ?_ (by first | omega | (simp <;> omega)) _) | (with_reducible refine K.b_only ?_ (by assumption) (by first | omega | (simp <;> omega)))))).mono ?_); rintro e W1 ⟨rfl, hb1⟩; obtain ⟨hB1, hC1, hF1, hZ1⟩ := K.bel_facts hb1; clear hb1; have hZZ := hZ1; (try simp at hZZ); have hz1_0 : w.heap.size < W1.heap.size := (by omega); clear hZZ))
    all_goals first | (exfalso; omega) | (go_ret2; exact ⟨rfl, (by repeat (first | (with_reducible exact Below.refl _ _) | (with_reducible refine K.b_bel ?_ (by assumption)) | (with_reducible refine K.b_alloc ?_ _) | (with_reducible refine K.b_drewN ?_ _) | (with_reducible refine K.b_drew ?_) | (with_reducible refine K.b_set ?_ (by first | omega | (simp <;> omega)) _) | (with_reducible refine K.b_only ?_ (by assumption) (by first | omega | (simp <;> omega)))))⟩)
set_option maxRecDepth 100000 in
set_option maxHeartbeats 4000000 in
theorem Rises_c (xs : List Int) (t p q : Int) (A : Option Addr) (n c : Nat) (w : World) (hr : Sl.Rds w 1 A n (xs.flatMap I1)) :
    Calls Try.prog 10 #[.agg #[.slice A n c, .int .i64 t], .int .i64 p, .int .i64 q] w fun e w' => e = .returned (.bool true) ∧ Below w.heap.size w w' := by
  have Hr := K.H.mk hr
  clear hr
  have HQ : ∀ m W, Below w.heap.size w W → Calls Try.prog 32 #[.agg #[.slice A n c, .int .i64 t], .int .i64 m] W fun e w' => e = .returned (.tuple #[.int .i64 (oQ xs t m), .int .i64 (eQ xs t m)]) ∧ Below W.heap.size W w' := fun m W hb => Quantile_c xs t m A n c W (Hr.out.below hb)
  have GQ := K.H.mk HQ
  clear HQ
  by_cases hx : eQ xs t p = 0 ∧ eQ xs t q = 0 ∧ ¬ q < p
  · have hd1 : (eQ xs t p != 0) = false := by simp [hx.1]
    have hd2 : (eQ xs t q != 0) = false := by simp [hx.2.1]
    have hd3 : decide (q < p) = false := by simpa using hx.2.2
    have hd4 : decide (oQ xs t p ≤ oQ xs t q) = true := by
      have hok : HOk xs t := Classical.byContradiction fun h => by have := (q_9 (m := p) h).1; omega
      have hp : 1 ≤ p ∧ p ≤ 1000 := Classical.byContradiction fun h => by have := (q_4 hok h).1; omega
      have hq : 1 ≤ q ∧ q ≤ 1000 := Classical.byContradiction fun h => by have := (q_4 hok h).1; omega
      have ht0 : t ≠ 0 := fun h => by have := (q_71 hok hp h).1; omega
      have ht := hok_in hok
      have hsum := hok.2.2.1
      have wp := want_in (t := t) hp (by omega)
      have wq := want_in (t := t) hq (by omega)
      have hwm := want_mono (a := p) (b := q) (t := t) (by omega) (by omega)
      have hl := qat_lt hok.2.1 (show 0 < want q t by omega) (by omega)
      have hl81 := hok.1
      rw [(q_0 hok hp ht0).2, (q_0 hok hq ht0).2, decide_eq_true_eq]
      exact tpp_mono (qat_mono hok.2.1 (by omega) hwm (by omega)) (by omega)
    clear hx
    go_enter Try.func10, Try.ntmps10
    go_wp2_with (first | (go_at_call 28; (with_reducible refine (alive_c _).mono ?_); rintro e W1 ⟨rfl, hb1⟩; obtain ⟨hB1, hC1, hF1, hZ1⟩ := K.bel_facts hb1; clear hb1; have hZZ := hZ1; (try simp at hZZ); have hz1_0 : w.heap.size < W1.heap.size := (by omega); clear hZZ) | (go_at_call 32; first | (go_at_call 32; (with_reducible refine (GQ.out p _ (by repeat (first | (with_reducible exact Below.refl _ _) | (with_reducible refine K.b_bel ?_ (by assumption)) | (with_reducible refine K.b_alloc ?_ _) | (with_reducible refine K.b_drewN ?_ _) | (with_reducible refine K.b_drew ?_) | (with_reducible refine K.b_set ?_ (by first | omega | (simp <;> omega)) _) | (with_reducible refine K.b_only ?_ (by assumption) (by first | omega | (simp <;> omega)))))).mono ?_); rintro e W2 ⟨rfl, hb2⟩; obtain ⟨hB2, hC2, hF2, hZ2⟩ := K.bel_facts hb2; clear hb2; have hZZ := hZ2; (try simp at hZZ); have hz2_0 : w.heap.size < W2.heap.size := (by omega); (try have hz2_1_0 : W1.heap.size < W2.heap.size := (by omega)); (try have hz2_1_1 : W1.heap.size + 1 < W2.heap.size := (by omega)); clear hZZ) | (go_at_call 32; (with_reducible refine (GQ.out q _ (by repeat (first | (with_reducible exact Below.refl _ _) | (with_reducible refine K.b_bel ?_ (by assumption)) | (with_reducible refine K.b_alloc ?_ _) | (with_reducible refine K.b_drewN ?_ _) | (with_reducible refine K.b_drew ?_) | (with_reducible refine K.b_set ?_ (by first | omega | (simp <;> omega)) _) | (with_reducible refine K.b_only ?_ (by assumption) (by first | omega | (simp <;> omega)))))).mono ?_); rintro e W3 ⟨rfl, hb3⟩; obtain ⟨hB3, hC3, hF3, hZ3⟩ := K.bel_facts hb3; clear hb3; have hZZ := hZ3; (try simp at hZZ); have hz3_0 : w.heap.size < W3.heap.size := (by omega); (try have hz3_1_0 : W1.heap.size < W3.heap.size := (by omega)); (try have hz3_1_1 : W1.heap.size + 1 < W3.heap.size := (by omega)); (try have hz3_2_0 : W2.heap.size < W3.heap.size := (by omega)); (try have hz3_2_1 : W2.heap.size + 1 < W3.heap.size := (by omega)); clear hZZ)) | (go_at_call 30; (with_reducible refine (num_c _ _).mono ?_); rintro e w' ⟨rfl, hw'⟩; have hw'2 := Eq.symm hw'; clear hw'; subst hw'2))
    all_goals (go_ret; exact ⟨rfl, (by repeat (first | (with_reducible exact Below.refl _ _) | (with_reducible refine K.b_bel ?_ (by assumption)) | (with_reducible refine K.b_alloc ?_ _) | (with_reducible refine K.b_drewN ?_ _) | (with_reducible refine K.b_drew ?_) | (with_reducible refine K.b_set ?_ (by first | omega | (simp <;> omega)) _) | (with_reducible refine K.b_only ?_ (by assumption) (by first | omega | (simp <;> omega)))))⟩)
  · by_cases h1 : eQ xs t p = 0
    · have hd1 : (eQ xs t p != 0) = false := by simp [h1]
      by_cases h2 : eQ xs t q = 0
      · have hd2 : (eQ xs t q != 0) = false := by simp [h2]
        have hd3 : decide (q < p) = true := by
          have : q < p := Classical.byContradiction fun h => hx ⟨h1, h2, h⟩
          simpa using this
        clear hx h1 h2
        go_enter Try.func10, Try.ntmps10
        go_wp2_with (first | (go_at_call 28; (with_reducible refine (alive_c _).mono ?_); rintro e W1 ⟨rfl, hb1⟩; obtain ⟨hB1, hC1, hF1, hZ1⟩ := K.bel_facts hb1; clear hb1; have hZZ := hZ1; (try simp at hZZ); have hz1_0 : w.heap.size < W1.heap.size := (by omega); clear hZZ) | (go_at_call 32; first | (go_at_call 32; (with_reducible refine (GQ.out p _ (by repeat (first | (with_reducible exact Below.refl _ _) | (with_reducible refine K.b_bel ?_ (by assumption)) | (with_reducible refine K.b_alloc ?_ _) | (with_reducible refine K.b_drewN ?_ _) | (with_reducible refine K.b_drew ?_) | (with_reducible refine K.b_set ?_ (by first | omega | (simp <;> omega)) _) | (with_reducible refine K.b_only ?_ (by assumption) (by first | omega | (simp <;> omega)))))).mono ?_); rintro e W2 ⟨rfl, hb2⟩; obtain ⟨hB2, hC2, hF2, hZ2⟩ := K.bel_facts hb2; clear hb2; have hZZ := hZ2; (try simp at hZZ); have hz2_0 : w.heap.size < W2.heap.size := (by omega); (try have hz2_1_0 : W1.heap.size < W2.heap.size := (by omega)); (try have hz2_1_1 : W1.heap.size + 1 < W2.heap.size := (by omega)); clear hZZ) | (go_at_call 32; (with_reducible refine (GQ.out q _ (by repeat (first | (with_reducible exact Below.refl _ _) | (with_reducible refine K.b_bel ?_ (by assumption)) | (with_reducible refine K.b_alloc ?_ _) | (with_reducible refine K.b_drewN ?_ _) | (with_reducible refine K.b_drew ?_) | (with_reducible refine K.b_set ?_ (by first | omega | (simp <;> omega)) _) | (with_reducible refine K.b_only ?_ (by assumption) (by first | omega | (simp <;> omega)))))).mono ?_); rintro e W3 ⟨rfl, hb3⟩; obtain ⟨hB3, hC3, hF3, hZ3⟩ := K.bel_facts hb3; clear hb3; have hZZ := hZ3; (try simp at hZZ); have hz3_0 : w.heap.size < W3.heap.size := (by omega); (try have hz3_1_0 : W1.heap.size < W3.heap.size := (by omega)); (try have hz3_1_1 : W1.heap.size + 1 < W3.heap.size := (by omega)); (try have hz3_2_0 : W2.heap.size < W3.heap.size := (by omega)); (try have hz3_2_1 : W2.heap.size + 1 < W3.heap.size := (by omega)); clear hZZ)) | (go_at_call 30; (with_reducible refine (num_c _ _).mono ?_); rintro e w' ⟨rfl, hw'⟩; have hw'2 := Eq.symm hw'; clear hw'; subst hw'2))
        all_goals (go_ret; exact ⟨rfl, (by repeat (first | (with_reducible exact Below.refl _ _) | (with_reducible refine K.b_bel ?_ (by assumption)) | (with_reducible refine K.b_alloc ?_ _) | (with_reducible refine K.b_drewN ?_ _) | (with_reducible refine K.b_drew ?_) | (with_reducible refine K.b_set ?_ (by first | omega | (simp <;> omega)) _) | (with_reducible refine K.b_only ?_ (by assumption) (by first | omega | (simp <;> omega)))))⟩)
      · have hd2 : (eQ xs t q != 0) = true := by simp [h2]
        clear hx h1 h2
        go_enter Try.func10, Try.ntmps10
        go_wp2_with (first | (go_at_call 28; (with_reducible refine (alive_c _).mono ?_); rintro e W1 ⟨rfl, hb1⟩; obtain ⟨hB1, hC1, hF1, hZ1⟩ := K.bel_facts hb1; clear hb1; have hZZ := hZ1; (try simp at hZZ); have hz1_0 : w.heap.size < W1.heap.size := (by omega); clear hZZ) | (go_at_call 32; first | (go_at_call 32; (with_reducible refine (GQ.out p _ (by repeat (first | (with_reducible exact Below.refl _ _) | (with_reducible refine K.b_bel ?_ (by assumption)) | (with_reducible refine K.b_alloc ?_ _) | (with_reducible refine K.b_drewN ?_ _) | (with_reducible refine K.b_drew ?_) | (with_reducible refine K.b_set ?_ (by first | omega | (simp <;> omega)) _) | (with_reducible refine K.b_only ?_ (by assumption) (by first | omega | (simp <;> omega)))))).mono ?_); rintro e W2 ⟨rfl, hb2⟩; obtain ⟨hB2, hC2, hF2, hZ2⟩ := K.bel_facts hb2; clear hb2; have hZZ := hZ2; (try simp at hZZ); have hz2_0 : w.heap.size < W2.heap.size := (by omega); (try have hz2_1_0 : W1.heap.size < W2.heap.size := (by omega)); (try have hz2_1_1 : W1.heap.size + 1 < W2.heap.size := (by omega)); clear hZZ) | (go_at_call 32; (with_reducible refine (GQ.out q _ (by repeat (first | (with_reducible exact Below.refl _ _) | (with_reducible refine K.b_bel ?_ (by assumption)) | (with_reducible refine K.b_alloc ?_ _) | (with_reducible refine K.b_drewN ?_ _) | (with_reducible refine K.b_drew ?_) | (with_reducible refine K.b_set ?_ (by first | omega | (simp <;> omega)) _) | (with_reducible refine K.b_only ?_ (by assumption) (by first | omega | (simp <;> omega)))))).mono ?_); rintro e W3 ⟨rfl, hb3⟩; obtain ⟨hB3, hC3, hF3, hZ3⟩ := K.bel_facts hb3; clear hb3; have hZZ := hZ3; (try simp at hZZ); have hz3_0 : w.heap.size < W3.heap.size := (by omega); (try have hz3_1_0 : W1.heap.size < W3.heap.size := (by omega)); (try have hz3_1_1 : W1.heap.size + 1 < W3.heap.size := (by omega)); (try have hz3_2_0 : W2.heap.size < W3.heap.size := (by omega)); (try have hz3_2_1 : W2.heap.size + 1 < W3.heap.size := (by omega)); clear hZZ)) | (go_at_call 30; (with_reducible refine (num_c _ _).mono ?_); rintro e w' ⟨rfl, hw'⟩; have hw'2 := Eq.symm hw'; clear hw'; subst hw'2))
        all_goals (go_ret; exact ⟨rfl, (by repeat (first | (with_reducible exact Below.refl _ _) | (with_reducible refine K.b_bel ?_ (by assumption)) | (with_reducible refine K.b_alloc ?_ _) | (with_reducible refine K.b_drewN ?_ _) | (with_reducible refine K.b_drew ?_) | (with_reducible refine K.b_set ?_ (by first | omega | (simp <;> omega)) _) | (with_reducible refine K.b_only ?_ (by assumption) (by first | omega | (simp <;> omega)))))⟩)
    · have hd1 : (eQ xs t p != 0) = true := by simp [h1]
      clear hx h1
      go_enter Try.func10, Try.ntmps10
      go_wp2_with (first | (go_at_call 28; (with_reducible refine (alive_c _).mono ?_); rintro e W1 ⟨rfl, hb1⟩; obtain ⟨hB1, hC1, hF1, hZ1⟩ := K.bel_facts hb1; clear hb1; have hZZ := hZ1; (try simp at hZZ); have hz1_0 : w.heap.size < W1.heap.size := (by omega); clear hZZ) | (go_at_call 32; first | (go_at_call 32; (with_reducible refine (GQ.out p _ (by repeat (first | (with_reducible exact Below.refl _ _) | (with_reducible refine K.b_bel ?_ (by assumption)) | (with_reducible refine K.b_alloc ?_ _) | (with_reducible refine K.b_drewN ?_ _) | (with_reducible refine K.b_drew ?_) | (with_reducible refine K.b_set ?_ (by first | omega | (simp <;> omega)) _) | (with_reducible refine K.b_only ?_ (by assumption) (by first | omega | (simp <;> omega)))))).mono ?_); rintro e W2 ⟨rfl, hb2⟩; obtain ⟨hB2, hC2, hF2, hZ2⟩ := K.bel_facts hb2; clear hb2; have hZZ := hZ2; (try simp at hZZ); have hz2_0 : w.heap.size < W2.heap.size := (by omega); (try have hz2_1_0 : W1.heap.size < W2.heap.size := (by omega)); (try have hz2_1_1 : W1.heap.size + 1 < W2.heap.size := (by omega)); clear hZZ) | (go_at_call 32; (with_reducible refine (GQ.out q _ (by repeat (first | (with_reducible exact Below.refl _ _) | (with_reducible refine K.b_bel ?_ (by assumption)) | (with_reducible refine K.b_alloc ?_ _) | (with_reducible refine K.b_drewN ?_ _) | (with_reducible refine K.b_drew ?_) | (with_reducible refine K.b_set ?_ (by first | omega | (simp <;> omega)) _) | (with_reducible refine K.b_only ?_ (by assumption) (by first | omega | (simp <;> omega)))))).mono ?_); rintro e W3 ⟨rfl, hb3⟩; obtain ⟨hB3, hC3, hF3, hZ3⟩ := K.bel_facts hb3; clear hb3; have hZZ := hZ3; (try simp at hZZ); have hz3_0 : w.heap.size < W3.heap.size := (by omega); (try have hz3_1_0 : W1.heap.size < W3.heap.size := (by omega)); (try have hz3_1_1 : W1.heap.size + 1 < W3.heap.size := (by omega)); (try have hz3_2_0 : W2.heap.size < W3.heap.size := (by omega)); (try have hz3_2_1 : W2.heap.size + 1 < W3.heap.size := (by omega)); clear hZZ)) | (go_at_call 30; (with_reducible refine (num_c _ _).mono ?_); rintro e w' ⟨rfl, hw'⟩; have hw'2 := Eq.symm hw'; clear hw'; subst hw'2))
      all_goals (go_ret; exact ⟨rfl, (by repeat (first | (with_reducible exact Below.refl _ _) | (with_reducible refine K.b_bel ?_ (by assumption)) | (with_reducible refine K.b_alloc ?_ _) | (with_reducible refine K.b_drewN ?_ _) | (with_reducible refine K.b_drew ?_) | (with_reducible refine K.b_set ?_ (by first | omega | (simp <;> omega)) _) | (with_reducible refine K.b_only ?_ (by assumption) (by first | omega | (simp <;> omega)))))⟩)
end Go.Proofs.Ytimdfnhagjlkoaa.Hst
