/- Histograms: Same; the reference's own and Add. -/
import Derived.Test.YtimdfnhagjlkoaaHstR
set_option linter.unusedVariables false
namespace Go.Proofs.Ytimdfnhagjlkoaa.Hst
open Go.RowKit Go.Proofs.Ytimdfnhagjlkoaa
attribute [local go_sem] K.max2_int K.min2_int K.max_two K.min_two K.max_three K.min_three
set_option linter.unusedSimpArgs false
set_option maxRecDepth 100000 in
set_option maxHeartbeats 4000000 in
theorem same_c (xs : List Int) (t : Int) (A B : Option Addr) (n m c d : Nat) (w : World) (hr : Sl.Rds w 1 A n (xs.flatMap I1)) (hs : Sl.Rds w 1 B m (xs.flatMap I1)) :
    Calls Try.prog 36 #[.agg #[.slice A n c, .int .i64 t], .agg #[.slice B m d, .int .i64 t]] w fun e w' => e = .returned (.bool true) ∧ Below w.heap.size w w' := by
  obtain rfl := hr.length (fun _ => rfl) (by omega)
  obtain rfl := hs.length (fun _ => rfl) (by omega)
  have hle := hr.le
  have Hr := K.H.mk hr
  have Hs := K.H.mk hs
  have ht : (t != t) = false := by simp
  have hl : ((xs.length : Int) != xs.length) = false := by simp
  clear hr hs
  go_enter Try.func36, Try.ntmps36
  go_wp2
  refine K.wp_gen (fun W => K.At W w.heap.size 54 #[.slice A xs.length c, .int .i64 t] ∧ K.At W (w.heap.size + 1) 54 #[.slice B xs.length d, .int .i64 t] ∧ Below w.heap.size w W) ⟨(by refine K.At.cast (by repeat (first | (with_reducible refine K.At.new' _ _ _ _ (by first | rfl | (simp; done) | omega)) | (with_reducible apply K.At.set) | (with_reducible apply K.At.alloc) | (with_reducible apply K.At.drewN) | (with_reducible apply K.At.drew) | (with_reducible apply K.At.far) | omega | (simp <;> omega))) ?_; rfl), (by refine K.At.cast (by repeat (first | (with_reducible refine K.At.new' _ _ _ _ (by first | rfl | (simp; done) | omega)) | (with_reducible apply K.At.set) | (with_reducible apply K.At.alloc) | (with_reducible apply K.At.drewN) | (with_reducible apply K.At.drew) | (with_reducible apply K.At.far) | omega | (simp <;> omega))) ?_; rfl), (by repeat (first | (with_reducible exact Below.refl _ _) | (with_reducible refine K.b_bel ?_ (by assumption)) | (with_reducible refine K.b_alloc ?_ _) | (with_reducible refine K.b_drewN ?_ _) | (with_reducible refine K.b_drew ?_) | (with_reducible refine K.b_set ?_ (by first | omega | (simp <;> omega)) _) | (with_reducible refine K.b_only ?_ (by assumption) (by first | omega | (simp <;> omega)))))⟩ ?_
  rintro W1 ⟨hA, hB, hb1⟩
  have Hb1 := K.H.mk hb1
  have hl1 := hA.lt
  have hl2 := hB.lt
  clear hb1 ht hl
  go_loopw [5] (fun i wr => ∃ k : Nat, k ≤ xs.length ∧ i = .int .i64 k ∧ K.H (Below W1.heap.size W1 wr)) (fun i _ => xs.length - (intOf i).toNat)
  case atStart => exact ⟨0, by omega, rfl, ⟨Below.refl _ _⟩⟩
  case round =>
    obtain ⟨k, hk, rfl, Hb⟩ := hrel
    have hA2 := K.At.over ⟨Hb.out⟩ hA
    have hB2 := K.At.over ⟨Hb.out⟩ hB
    have Hw := K.H.mk (Hb1.out.trans (Hb.out.mono Hb1.out.size))
    have hwl1 := hA2.lt
    have hwl2 := hB2.lt
    obtain ⟨hc5, hf5, hl5⟩ := K.At.facts hA2
    obtain ⟨hc6, hf6, hl6⟩ := K.At.facts hB2
    by_cases hlt : k < xs.length
    · obtain ⟨x, hx⟩ : ∃ x, xs[k]? = some x := ⟨_, List.getElem?_eq_getElem hlt⟩
      obtain ⟨b, off, rfl, hbl, hbc⟩ := Sl.Rds.elem Hr.out (enc := fun n => [.int .i64 n]) (fun _ => rfl) (by omega) hx
      have q_0 : wr.cell? ⟨b, off + k, none⟩ = some (.int .i64 x) := by
        have := (Hw.out.cell (p := ⟨b, off + k * 1 + 0, none⟩) hbl).trans (hbc 0 (by omega))
        simpa using this
      obtain ⟨b2, off2, rfl, hbl2, hbc2⟩ := Sl.Rds.elem Hs.out (enc := fun n => [.int .i64 n]) (fun _ => rfl) (by omega) hx
      have q2_0 : wr.cell? ⟨b2, off2 + k, none⟩ = some (.int .i64 x) := by
        have := (Hw.out.cell (p := ⟨b2, off2 + k * 1 + 0, none⟩) hbl2).trans (hbc2 0 (by omega))
        simpa using this
      have hbw : b < wr.heap.size := Nat.lt_of_lt_of_le hbl Hw.out.size
      have hbw2 : b2 < wr.heap.size := Nat.lt_of_lt_of_le hbl2 Hw.out.size
      have hxx : (x != x) = false := by simp
      have hki : (k : Int) < xs.length := by omega
      clear hx hbc hbc2
      go_wp2
      refine K.wp_region_ext_lit (by kernel_rfl) (by kernel_rfl) ?_
      repeat (any_goals (first | go_big_quiet_skip | quiet_step (fail) | (refine wpQuiet_step (fun K hK => ?_); go_simp; split <;> (refine hK _ ?_; clear hK K))))
      all_goals (refine wpQuiet_nil ?_; intro W9 hW9; obtain ⟨hB9, hC9, hF9, hZ9⟩ := K.ext_facts hW9; clear hW9)
      go_wp2
      go_roundw
      case rel => exact ⟨k + 1, by omega, by go_num, ⟨(by repeat (first | (with_reducible exact Below.refl _ _) | (with_reducible exact Hb.out) | (with_reducible refine K.b_bel ?_ (by assumption)) | (with_reducible refine K.b_alloc ?_ _) | (with_reducible refine K.b_drewN ?_ _) | (with_reducible refine K.b_drew ?_) | (with_reducible refine K.b_set ?_ (by first | omega | (simp <;> omega)) _) | (with_reducible refine K.b_only ?_ (by assumption) (by first | omega | (simp <;> omega)))))⟩⟩
      case measure => simp [intOf]; omega
    · obtain rfl : k = xs.length := by omega
      go_wp2
      go_ret
      exact ⟨rfl, Hw.out⟩
theorem pad_get {xs : List Int} {k : Nat} (h : k < xs.length) (hl : xs.length ≤ 81) : (pad (xs.take k))[k]? = some 0 := by
  unfold pad
  rw [List.getElem?_append_right (by simp; omega), List.length_take, Nat.min_eq_left (by omega), Nat.sub_self, List.getElem?_replicate, if_pos (by omega)]
theorem pad_set {xs : List Int} {k : Nat} {x : Int} (h : xs[k]? = some x) (hl : xs.length ≤ 81) : (pad (xs.take k)).set k x = pad (xs.take (k + 1)) := by
  obtain ⟨hk, he⟩ := List.getElem?_eq_some_iff.1 h
  have e1 : (xs.take k).length = k := by simp; omega
  have e2 : (xs.take (k + 1)).length = k + 1 := by simp; omega
  unfold pad
  rw [e1, e2, show 81 - k = (81 - (k + 1)) + 1 by omega, List.replicate_succ, List.set_append_right _ _ (by omega), e1, Nat.sub_self, List.set_cons_zero, List.take_succ_eq_append_getElem hk, he, List.append_assoc]
  rfl
/-- What the reference's own tells. -/
def ROwnPost (w : World) (xs : List Int) (t : Int) (e : Ending) (w' : World) : Prop := ∃ R, e = .returned (.agg #[.slice (some ⟨R, 0, none⟩) 81 81, .int .i64 t]) ∧ w.heap.size ≤ R ∧ K.At w' R 3 (vals (pad xs)) ∧ Below w.heap.size w w'
set_option maxRecDepth 100000 in
set_option maxHeartbeats 4000000 in
theorem rown_c (xs : List Int) (t : Int) (A : Option Addr) (n c : Nat) (w : World) (hr : Sl.Rds w 1 A n (xs.flatMap I1)) (hl : xs.length = 0 ∨ xs.length = 81) :
    Calls Try.prog 58 #[.agg #[.slice A n c, .int .i64 t]] w (ROwnPost w xs t) := by
  obtain rfl := hr.length (fun _ => rfl) (by omega)
  have hle := hr.le
  have Hr := K.H.mk hr
  clear hr
  have hmk := make81
  go_enter Try.func58, Try.ntmps58
  go_wp2
  go_region
  all_goals go_wp2
  all_goals clear hmk
  · refine K.wp_gen (fun W => K.At W (w.heap.size + 2) 3 (vals (List.replicate 81 0)) ∧ K.At W (w.heap.size + 3) 54 #[.slice (some ⟨w.heap.size + 2, 0, none⟩) 81 81, .int .i64 t] ∧ K.At W w.heap.size 54 #[.slice A xs.length c, .int .i64 t] ∧ K.At W (w.heap.size + 1) 54 #[.slice none 0 0, .int .i64 0] ∧ K.H (Below w.heap.size w W)) ⟨(by refine K.At.cast (by repeat (first | (with_reducible refine K.At.new' _ _ _ _ (by first | rfl | (simp; done) | omega)) | (with_reducible apply K.At.set) | (with_reducible apply K.At.alloc) | (with_reducible apply K.At.drewN) | (with_reducible apply K.At.drew) | (with_reducible apply K.At.far) | omega | (simp <;> omega))) ?_; kernel_rfl), (by refine K.At.cast (by repeat (first | (with_reducible refine K.At.new' _ _ _ _ (by first | rfl | (simp; done) | omega)) | (with_reducible apply K.At.set) | (with_reducible apply K.At.alloc) | (with_reducible apply K.At.drewN) | (with_reducible apply K.At.drew) | (with_reducible apply K.At.far) | omega | (simp <;> omega))) ?_; rfl), (by refine K.At.cast (by repeat (first | (with_reducible refine K.At.new' _ _ _ _ (by first | rfl | (simp; done) | omega)) | (with_reducible apply K.At.set) | (with_reducible apply K.At.alloc) | (with_reducible apply K.At.drewN) | (with_reducible apply K.At.drew) | (with_reducible apply K.At.far) | omega | (simp <;> omega))) ?_; rfl), (by refine K.At.cast (by repeat (first | (with_reducible refine K.At.new' _ _ _ _ (by first | rfl | (simp; done) | omega)) | (with_reducible apply K.At.set) | (with_reducible apply K.At.alloc) | (with_reducible apply K.At.drewN) | (with_reducible apply K.At.drew) | (with_reducible apply K.At.far) | omega | (simp <;> omega))) ?_; rfl), ⟨(by repeat (first | (with_reducible exact Below.refl _ _) | (with_reducible refine K.b_bel ?_ (by assumption)) | (with_reducible refine K.b_alloc ?_ _) | (with_reducible refine K.b_drewN ?_ _) | (with_reducible refine K.b_drew ?_) | (with_reducible refine K.b_set ?_ (by first | omega | (simp <;> omega)) _) | (with_reducible refine K.b_only ?_ (by assumption) (by first | omega | (simp <;> omega)))))⟩⟩ ?_
    rintro W1 ⟨hR, hP, hH, hZ, Hb⟩
    go_loopw [4] (fun i wr => ∃ k : Nat, k ≤ xs.length ∧ i = .int .i64 k ∧ K.At wr (w.heap.size + 2) 3 (vals (pad (xs.take k))) ∧ K.At wr (w.heap.size + 3) 54 #[.slice (some ⟨w.heap.size + 2, 0, none⟩) 81 81, .int .i64 t] ∧ K.At wr w.heap.size 54 #[.slice A xs.length c, .int .i64 t] ∧ K.At wr (w.heap.size + 1) 54 #[.slice none 0 0, .int .i64 0] ∧ K.H (Below w.heap.size w wr)) (fun i _ => xs.length - (intOf i).toNat)
    case atStart => exact ⟨0, by omega, rfl, hR, hP, hH, hZ, Hb⟩
    case round =>
      clear hR hP hH hZ Hb
      obtain ⟨k, hk, rfl, hR, hP, hH, hZ, Hb⟩ := hrel
      obtain ⟨hc5, hf5, hl5⟩ := K.At.facts hP
      obtain ⟨hc6, hf6, hl6⟩ := K.At.facts hH
      obtain ⟨hc7, hf7, hl7⟩ := K.At.facts hZ
      by_cases hlt : k < xs.length
      · obtain ⟨x, hx⟩ : ∃ x, xs[k]? = some x := ⟨_, List.getElem?_eq_getElem hlt⟩
        obtain ⟨b, off, rfl, hbl, hbc⟩ := Sl.Rds.elem Hr.out (enc := I1) (fun _ => rfl) (by omega) hx
        have q_0 : wr.cell? ⟨b, off + k, none⟩ = some (.int .i64 x) := by
          have := (Hb.out.cell (p := ⟨b, off + k * 1 + 0, none⟩) hbl).trans (hbc 0 (by omega))
          simpa using this
        have hbw : b < wr.heap.size := Nat.lt_of_lt_of_le hbl Hb.out.size
        have hz0 := pad_get (xs := xs) hlt (by omega)
        have hcR : wr.cell? ⟨w.heap.size + 2, k, none⟩ = some (.int .i64 0) := by rw [hR.cell]; exact vals_get hz0
        have hfR := hR.frozen
        have hlR := hR.lt
        have hki : (k : Int) < xs.length := by omega
        have hk81 : (k : Int) < 81 := by omega
        have Hst := K.H.mk (pad_set hx (by omega))
        have hbR : b ≠ w.heap.size + 2 := by omega
        clear hx hbc hz0
        go_wp2
        go_region
        all_goals go_wp2
        all_goals go_roundw
        case rel => exact ⟨k + 1, by omega, by go_num, (((hR.set k (.int .i64 x)).cast (by rw [vals_set, Hst.out]))).drew, (hP.far (p := ⟨w.heap.size + 2, k, none⟩) (by simp) _).drew, (hH.far (p := ⟨w.heap.size + 2, k, none⟩) (by simp) _).drew, (hZ.far (p := ⟨w.heap.size + 2, k, none⟩) (by simp) _).drew, ⟨K.b_drew (Hb.out.setCell (p := ⟨w.heap.size + 2, k, none⟩) (by simp) _)⟩⟩
        case measure => simp [intOf]; omega
      · obtain rfl : k = xs.length := by omega
        rw [List.take_length] at hR
        go_wp2
        ((try simp only [Exit.inBlock, Exit.then]); refine bodyPost_ret (v := .agg #[.slice (some ⟨w.heap.size + 2, 0, none⟩) 81 81, .int .i64 t]) (by simp only [results, Try.results58]; go_simp) rfl ?_)
        exact ⟨w.heap.size + 2, rfl, by omega, (by refine K.At.cast (by repeat (first | (with_reducible exact hR) | (with_reducible refine K.At.new' _ _ _ _ (by first | rfl | (simp; done) | omega)) | (with_reducible apply K.At.set) | (with_reducible apply K.At.alloc) | (with_reducible apply K.At.drewN) | (with_reducible apply K.At.drew) | (with_reducible apply K.At.far) | omega | (simp <;> omega))) ?_; rfl), (by repeat (first | (with_reducible exact Below.refl _ _) | (with_reducible exact Hb.out) | (with_reducible refine K.b_bel ?_ (by assumption)) | (with_reducible refine K.b_alloc ?_ _) | (with_reducible refine K.b_drewN ?_ _) | (with_reducible refine K.b_drew ?_) | (with_reducible refine K.b_set ?_ (by first | omega | (simp <;> omega)) _) | (with_reducible refine K.b_only ?_ (by assumption) (by first | omega | (simp <;> omega)))))⟩
  · refine K.wp_gen (fun W => K.At W (w.heap.size + 3) 3 (vals (List.replicate 81 0)) ∧ K.At W (w.heap.size + 2) 54 #[.slice (some ⟨w.heap.size + 3, 0, none⟩) 81 81, .int .i64 t] ∧ K.At W w.heap.size 54 #[.slice A xs.length c, .int .i64 t] ∧ K.At W (w.heap.size + 1) 54 #[.slice none 0 0, .int .i64 0] ∧ K.H (Below w.heap.size w W)) ⟨(by refine K.At.cast (by repeat (first | (with_reducible refine K.At.new' _ _ _ _ (by first | rfl | (simp; done) | omega)) | (with_reducible apply K.At.set) | (with_reducible apply K.At.alloc) | (with_reducible apply K.At.drewN) | (with_reducible apply K.At.drew) | (with_reducible apply K.At.far) | omega | (simp <;> omega))) ?_; kernel_rfl), (by refine K.At.cast (by repeat (first | (with_reducible refine K.At.new' _ _ _ _ (by first | rfl | (simp; done) | omega)) | (with_reducible apply K.At.set) | (with_reducible apply K.At.alloc) | (with_reducible apply K.At.drewN) | (with_reducible apply K.At.drew) | (with_reducible apply K.At.far) | omega | (simp <;> omega))) ?_; rfl), (by refine K.At.cast (by repeat (first | (with_reducible refine K.At.new' _ _ _ _ (by first | rfl | (simp; done) | omega)) | (with_reducible apply K.At.set) | (with_reducible apply K.At.alloc) | (with_reducible apply K.At.drewN) | (with_reducible apply K.At.drew) | (with_reducible apply K.At.far) | omega | (simp <;> omega))) ?_; rfl), (by refine K.At.cast (by repeat (first | (with_reducible refine K.At.new' _ _ _ _ (by first | rfl | (simp; done) | omega)) | (with_reducible apply K.At.set) | (with_reducible apply K.At.alloc) | (with_reducible apply K.At.drewN) | (with_reducible apply K.At.drew) | (with_reducible apply K.At.far) | omega | (simp <;> omega))) ?_; rfl), ⟨(by repeat (first | (with_reducible exact Below.refl _ _) | (with_reducible refine K.b_bel ?_ (by assumption)) | (with_reducible refine K.b_alloc ?_ _) | (with_reducible refine K.b_drewN ?_ _) | (with_reducible refine K.b_drew ?_) | (with_reducible refine K.b_set ?_ (by first | omega | (simp <;> omega)) _) | (with_reducible refine K.b_only ?_ (by assumption) (by first | omega | (simp <;> omega)))))⟩⟩ ?_
    rintro W1 ⟨hR, hP, hH, hZ, Hb⟩
    go_loopw [4] (fun i wr => ∃ k : Nat, k ≤ xs.length ∧ i = .int .i64 k ∧ K.At wr (w.heap.size + 3) 3 (vals (pad (xs.take k))) ∧ K.At wr (w.heap.size + 2) 54 #[.slice (some ⟨w.heap.size + 3, 0, none⟩) 81 81, .int .i64 t] ∧ K.At wr w.heap.size 54 #[.slice A xs.length c, .int .i64 t] ∧ K.At wr (w.heap.size + 1) 54 #[.slice none 0 0, .int .i64 0] ∧ K.H (Below w.heap.size w wr)) (fun i _ => xs.length - (intOf i).toNat)
    case atStart => exact ⟨0, by omega, rfl, hR, hP, hH, hZ, Hb⟩
    case round =>
      clear hR hP hH hZ Hb
      obtain ⟨k, hk, rfl, hR, hP, hH, hZ, Hb⟩ := hrel
      obtain ⟨hc5, hf5, hl5⟩ := K.At.facts hP
      obtain ⟨hc6, hf6, hl6⟩ := K.At.facts hH
      obtain ⟨hc7, hf7, hl7⟩ := K.At.facts hZ
      by_cases hlt : k < xs.length
      · obtain ⟨x, hx⟩ : ∃ x, xs[k]? = some x := ⟨_, List.getElem?_eq_getElem hlt⟩
        obtain ⟨b, off, rfl, hbl, hbc⟩ := Sl.Rds.elem Hr.out (enc := I1) (fun _ => rfl) (by omega) hx
        have q_0 : wr.cell? ⟨b, off + k, none⟩ = some (.int .i64 x) := by
          have := (Hb.out.cell (p := ⟨b, off + k * 1 + 0, none⟩) hbl).trans (hbc 0 (by omega))
          simpa using this
        have hbw : b < wr.heap.size := Nat.lt_of_lt_of_le hbl Hb.out.size
        have hz0 := pad_get (xs := xs) hlt (by omega)
        have hcR : wr.cell? ⟨w.heap.size + 3, k, none⟩ = some (.int .i64 0) := by rw [hR.cell]; exact vals_get hz0
        have hfR := hR.frozen
        have hlR := hR.lt
        have hki : (k : Int) < xs.length := by omega
        have hk81 : (k : Int) < 81 := by omega
        have Hst := K.H.mk (pad_set hx (by omega))
        have hbR : b ≠ w.heap.size + 3 := by omega
        clear hx hbc hz0
        go_wp2
        go_region
        all_goals go_wp2
        all_goals go_roundw
        case rel => exact ⟨k + 1, by omega, by go_num, (((hR.set k (.int .i64 x)).cast (by rw [vals_set, Hst.out]))).drew, (hP.far (p := ⟨w.heap.size + 3, k, none⟩) (by simp) _).drew, (hH.far (p := ⟨w.heap.size + 3, k, none⟩) (by simp) _).drew, (hZ.far (p := ⟨w.heap.size + 3, k, none⟩) (by simp) _).drew, ⟨K.b_drew (Hb.out.setCell (p := ⟨w.heap.size + 3, k, none⟩) (by simp) _)⟩⟩
        case measure => simp [intOf]; omega
      · obtain rfl : k = xs.length := by omega
        rw [List.take_length] at hR
        go_wp2
        ((try simp only [Exit.inBlock, Exit.then]); refine bodyPost_ret (v := .agg #[.slice (some ⟨w.heap.size + 3, 0, none⟩) 81 81, .int .i64 t]) (by simp only [results, Try.results58]; go_simp) rfl ?_)
        exact ⟨w.heap.size + 3, rfl, by omega, (by refine K.At.cast (by repeat (first | (with_reducible exact hR) | (with_reducible refine K.At.new' _ _ _ _ (by first | rfl | (simp; done) | omega)) | (with_reducible apply K.At.set) | (with_reducible apply K.At.alloc) | (with_reducible apply K.At.drewN) | (with_reducible apply K.At.drew) | (with_reducible apply K.At.far) | omega | (simp <;> omega))) ?_; rfl), (by repeat (first | (with_reducible exact Below.refl _ _) | (with_reducible exact Hb.out) | (with_reducible refine K.b_bel ?_ (by assumption)) | (with_reducible refine K.b_alloc ?_ _) | (with_reducible refine K.b_drewN ?_ _) | (with_reducible refine K.b_drew ?_) | (with_reducible refine K.b_set ?_ (by first | omega | (simp <;> omega)) _) | (with_reducible refine K.b_only ?_ (by assumption) (by first | omega | (simp <;> omega)))))⟩
end Go.Proofs.Ytimdfnhagjlkoaa.Hst
