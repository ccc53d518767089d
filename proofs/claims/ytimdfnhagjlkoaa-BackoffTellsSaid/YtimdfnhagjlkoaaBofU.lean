/- Backoff: Total and Row of the reference; BackoffSums, BackoffTells: the walks. -/
import Derived.Test.YtimdfnhagjlkoaaBofT
import Derived.Test.YtimdfnhagjlkoaaBofQ
set_option linter.unusedVariables false
namespace Go.Proofs.Ytimdfnhagjlkoaa.Bof
open Go.RowKit Go.Proofs.Ytimdfnhagjlkoaa
attribute [local go_sem] K.max2_int K.min2_int K.max_two K.min_two K.max_three K.min_three
set_option linter.unusedSimpArgs false
theorem Chk_ok {s : S} (h : Ok s) (W : World) : Calls Try.prog 26 #[s.a] W fun e w' => e = .returned (.int .i64 0) ∧ Below W.heap.size W w' := by
  have h2 := chk_c s W
  rwa [chk_0 h] at h2
theorem Chk_no {s : S} (h : ¬ Ok s) (W : World) : Calls Try.prog 26 #[s.a] W fun e w' => e = .returned (.int .i64 4) ∧ Below W.heap.size W w' := by
  have h2 := chk_c s W
  rwa [chk_4 h] at h2
set_option maxRecDepth 100000 in
set_option maxHeartbeats 2000000 in
theorem Total_c (s : S) (ds : List Int) (hu : U64 ds) (A : Option Addr) (n c : Nat) (w : World) (hr : Sl.Rds w 1 A n (ds.flatMap fun n => [.int .u64 n])) :
    Calls Try.prog 23 #[s.a, .slice A n c] w fun e w' => e = .returned (.tuple #[.int .i64 (oTotal s ds), .int .i64 (eTotal s ds)]) ∧ Below w.heap.size w w' := by
  obtain rfl := hr.length (fun _ => rfl) (by omega)
  have hle := hr.le
  by_cases h : Ok s
  · by_cases h2 : ds.length ≤ 64
    · rw [(total_0 h h2).1, (total_0 h h2).2]
      exact Total_ok s h ds hu h2 A c w hr
    · have GC := K.H.mk (Chk_ok h)
      have E := K.H.mk (total_3 (ds := ds) h (by omega))
      have hd : decide ((64 : Int) < (ds.length : Int)) = true := by simp; omega
      rw [E.out.1, E.out.2]
      clear h h2 hr hu
      go_enter Try.func23, Try.ntmps23
      go_wp2_with (first | (go_at_call 26; (with_reducible refine (GC.out _).mono ?_); rintro e W1 ⟨rfl, hb1⟩; obtain ⟨hB1, hC1, hF1, hZ1⟩ := K.bel_facts hb1; clear hb1; have hZZ := hZ1; (try simp at hZZ); have hz1_0 : w.heap.size < W1.heap.size := (by omega); have hz1_1 : w.heap.size + 1 < W1.heap.size := (by omega); clear hZZ))
      go_ret2
      exact ⟨rfl, (by repeat (first | (with_reducible exact Below.refl _ _) | (with_reducible refine K.b_bel ?_ (by assumption)) | (with_reducible refine K.b_alloc ?_ _) | (with_reducible refine K.b_drewN ?_ _) | (with_reducible refine K.b_drew ?_) | (with_reducible refine K.b_set ?_ (by first | omega | (simp <;> omega)) _) | (with_reducible refine K.b_only ?_ (by assumption) (by first | omega | (simp <;> omega)))))⟩
  · have GC := K.H.mk (Chk_no h)
    have E := K.H.mk (total_4 (ds := ds) h)
    rw [E.out.1, E.out.2]
    clear h hr hu
    go_enter Try.func23, Try.ntmps23
    go_wp2_with (first | (go_at_call 26; (with_reducible refine (GC.out _).mono ?_); rintro e W1 ⟨rfl, hb1⟩; obtain ⟨hB1, hC1, hF1, hZ1⟩ := K.bel_facts hb1; clear hb1; have hZZ := hZ1; (try simp at hZZ); have hz1_0 : w.heap.size < W1.heap.size := (by omega); have hz1_1 : w.heap.size + 1 < W1.heap.size := (by omega); clear hZZ))
    go_ret2
    exact ⟨rfl, (by repeat (first | (with_reducible exact Below.refl _ _) | (with_reducible refine K.b_bel ?_ (by assumption)) | (with_reducible refine K.b_alloc ?_ _) | (with_reducible refine K.b_drewN ?_ _) | (with_reducible refine K.b_drew ?_) | (with_reducible refine K.b_set ?_ (by first | omega | (simp <;> omega)) _) | (with_reducible refine K.b_only ?_ (by assumption) (by first | omega | (simp <;> omega)))))⟩
theorem del_0 {s : S} (h : Ok s) {ds : List Int} {k : Nat} {d : Int} (hk : ds[k]? = some d) (h64 : k < 64) : oDelay s (k + 1) d = less s (mst s k) (ds.getD k 0) ∧ eMost s (k + 1) = 0 := by
  have hg : ds.getD k 0 = d := by rw [List.getD_eq_getElem?_getD, hk]; rfl
  have hn : 1 ≤ (k : Int) + 1 ∧ (k : Int) + 1 ≤ 64 := by omega
  refine ⟨?_, (most_0 h hn).1⟩
  rw [delay_0 h hn, hg]
  unfold mstI
  rw [show ((k : Int) + 1 - 1).toNat = k by omega]
set_option maxRecDepth 100000 in
set_option maxHeartbeats 4000000 in
theorem rTotal_c (s : S) (ds : List Int) (hu : U64 ds) (A : Option Addr) (n c : Nat) (w : World) (hr : Sl.Rds w 1 A n (ds.flatMap fun n => [.int .u64 n])) :
    Calls Try.prog 24 #[s.a, .slice A n c] w fun e w' => e = .returned (.tuple #[.int .i64 (oTotal s ds), .int .i64 (eTotal s ds)]) ∧ Below w.heap.size w w' := by
  obtain rfl := hr.length (fun _ => rfl) (by omega)
  have hle := hr.le
  by_cases h : Ok s
  · have GC := K.H.mk (rChk_ok h)
    by_cases h2 : ds.length ≤ 64
    · rw [(total_0 h h2).1, (total_0 h h2).2]
      have hd : decide ((64 : Int) < (ds.length : Int)) = false := by simp; omega
      have Hs := K.H.mk h
      have Hu := K.H.mk hu
      have Hr := K.H.mk hr
      clear h hr hu
      go_enter Try.func24, Try.ntmps24
      go_wp2_with (first | (go_at_call 27; (with_reducible refine (GC.out _).mono ?_); rintro e W1 ⟨rfl, hb1⟩; obtain ⟨hB1, hC1, hF1, hZ1⟩ := K.bel_facts hb1; clear hb1; have hZZ := hZ1; (try simp at hZZ); have hz1_0 : w.heap.size < W1.heap.size := (by omega); clear hZZ))
      refine K.wp_gen (fun W => K.At W w.heap.size 23 s.c ∧ Below w.heap.size w W) ⟨(by refine K.At.cast (by repeat (first | (with_reducible refine K.At.new' _ _ _ _ (by first | rfl | (simp; done) | omega)) | (with_reducible apply K.At.over hB1) | (with_reducible apply K.At.set) | (with_reducible apply K.At.alloc) | (with_reducible apply K.At.drewN) | (with_reducible apply K.At.drew) | (with_reducible apply K.At.far) | omega | (simp <;> omega))) ?_; rfl), (by repeat (first | (with_reducible exact Below.refl _ _) | (with_reducible refine K.b_bel ?_ (by assumption)) | (with_reducible refine K.b_alloc ?_ _) | (with_reducible refine K.b_drewN ?_ _) | (with_reducible refine K.b_drew ?_) | (with_reducible refine K.b_set ?_ (by first | omega | (simp <;> omega)) _) | (with_reducible refine K.b_only ?_ (by assumption) (by first | omega | (simp <;> omega)))))⟩ ?_
      rintro W2 ⟨hA, hb2⟩
      have Hb2 := K.H.mk hb2
      clear hb2 hd
      ((try clear hC1); (try clear hF1); (try clear hZ1); (try clear hc1); (try clear hf1); (try clear hl1); (try clear hB1); (try clear hO1); (try clear hA1); (try clear hz1_0); (try clear hz1_1); (try clear hz1_2); (try clear hz1_3); (try clear GC))
      go_loopw [6, 7] (fun t i wr => ∃ k : Nat, k ≤ ds.length ∧ i = .int .i64 k ∧ t = .int .i64 (tsum s ds k) ∧ K.At wr w.heap.size 23 s.c ∧ K.H (Below w.heap.size w wr)) (fun _ i _ => ds.length - (intOf i).toNat)
      case atStart => exact ⟨0, by omega, rfl, rfl, hA, Hb2⟩
      case round =>
        clear hA Hb2
        obtain ⟨k, hk, rfl, rfl, hA, Hb⟩ := hrel
        obtain ⟨hc5, hf5, hl5⟩ := K.At.facts hA
        by_cases hlt : k < ds.length
        · obtain ⟨d, hx⟩ : ∃ d, ds[k]? = some d := ⟨_, List.getElem?_eq_getElem hlt⟩
          have hdd := Hu.out d (List.mem_of_getElem? hx)
          have h1 := tsum_in Hs.out Hu.out k
          have h3 := tsum_in Hs.out Hu.out (k + 1)
          have HT : tsum s ds (k + 1) = tsum s ds k + oDelay s (k + 1) d := by rw [(del_0 Hs.out hx (by omega)).1]; rfl
          have GD := K.H.mk (fun W => by have h4 := rDelay_c s (k + 1) d W hdd.1 hdd.2; rw [(del_0 Hs.out hx (by omega)).2] at h4; exact h4)
          rw [HT] at h3
          have HT := K.H.mk HT
          obtain ⟨b, off, rfl, hbl, hbc⟩ := Sl.Rds.elem Hr.out (enc := fun n => [.int .u64 n]) (fun _ => rfl) (by omega) hx
          have q_0 : wr.cell? ⟨b, off + k, none⟩ = some (.int .u64 d) := by
            have := (Hb.out.cell (p := ⟨b, off + k * 1 + 0, none⟩) hbl).trans (hbc 0 (by omega))
            simpa using this
          have hbw : b < wr.heap.size := Nat.lt_of_lt_of_le hbl Hb.out.size
          have hki : (k : Int) < ds.length := by omega
          generalize oDelay s (k + 1) d = y at *
          have hw1 : IntKind.i64.wrap ((k : Int) + 1) = k + 1 := K.i64_in (by omega) (by omega)
          clear hx hbc
          go_wp2
          refine K.wp_region_ext_lit (by kernel_rfl) (by kernel_rfl) ?_
          repeat (any_goals (first | go_big_quiet_skip | quiet_step ((go_at_call 22; first | (with_reducible exact K.q_below (GD.out _)))) | (refine wpQuiet_step (fun K hK => ?_); go_simp; split <;> (refine hK _ ?_; clear hK K))))
          all_goals (refine wpQuiet_nil ?_; intro W9 hW9; obtain ⟨hB9, hC9, hF9, hZ9⟩ := K.ext_facts hW9; clear hW9; have hA_9 := K.At.bel hA hB9)
          go_wp2
          go_roundw
          case rel => exact ⟨k + 1, by omega, by go_num, by rw [HT.out], hA_9, ⟨(by repeat (first | (with_reducible exact Below.refl _ _) | (with_reducible exact Hb.out) | (with_reducible refine K.b_bel ?_ (by assumption)) | (with_reducible refine K.b_alloc ?_ _) | (with_reducible refine K.b_drewN ?_ _) | (with_reducible refine K.b_drew ?_) | (with_reducible refine K.b_set ?_ (by first | omega | (simp <;> omega)) _) | (with_reducible refine K.b_only ?_ (by assumption) (by first | omega | (simp <;> omega)))))⟩⟩
          case measure => simp [intOf]; omega
        · obtain rfl : k = ds.length := by omega
          go_wp2
          go_ret2
          exact ⟨rfl, Hb.out⟩
    · have E := K.H.mk (total_3 (ds := ds) h (by omega))
      have hd : decide ((64 : Int) < (ds.length : Int)) = true := by simp; omega
      rw [E.out.1, E.out.2]
      clear h h2 hr hu
      go_enter Try.func24, Try.ntmps24
      go_wp2_with (first | (go_at_call 27; (with_reducible refine (GC.out _).mono ?_); rintro e W1 ⟨rfl, hb1⟩; obtain ⟨hB1, hC1, hF1, hZ1⟩ := K.bel_facts hb1; clear hb1; have hZZ := hZ1; (try simp at hZZ); have hz1_0 : w.heap.size < W1.heap.size := (by omega); clear hZZ))
      go_ret2
      exact ⟨rfl, (by repeat (first | (with_reducible exact Below.refl _ _) | (with_reducible refine K.b_bel ?_ (by assumption)) | (with_reducible refine K.b_alloc ?_ _) | (with_reducible refine K.b_drewN ?_ _) | (with_reducible refine K.b_drew ?_) | (with_reducible refine K.b_set ?_ (by first | omega | (simp <;> omega)) _) | (with_reducible refine K.b_only ?_ (by assumption) (by first | omega | (simp <;> omega)))))⟩
  · have GC := K.H.mk (rChk_no h)
    have E := K.H.mk (total_4 (ds := ds) h)
    rw [E.out.1, E.out.2]
    clear h hr hu
    go_enter Try.func24, Try.ntmps24
    go_wp2_with (first | (go_at_call 27; (with_reducible refine (GC.out _).mono ?_); rintro e W1 ⟨rfl, hb1⟩; obtain ⟨hB1, hC1, hF1, hZ1⟩ := K.bel_facts hb1; clear hb1; have hZZ := hZ1; (try simp at hZZ); have hz1_0 : w.heap.size < W1.heap.size := (by omega); clear hZZ))
    go_ret2
    exact ⟨rfl, (by repeat (first | (with_reducible exact Below.refl _ _) | (with_reducible refine K.b_bel ?_ (by assumption)) | (with_reducible refine K.b_alloc ?_ _) | (with_reducible refine K.b_drewN ?_ _) | (with_reducible refine K.b_drew ?_) | (with_reducible refine K.b_set ?_ (by first | omega | (simp <;> omega)) _) | (with_reducible refine K.b_only ?_ (by assumption) (by first | omega | (simp <;> omega)))))⟩
set_option maxRecDepth 100000 in
set_option maxHeartbeats 4000000 in
theorem Sums_c (s : S) (ds : List Int) (hu : U64 ds) (A : Option Addr) (n c : Nat) (w : World) (hr : Sl.Rds w 1 A n (ds.flatMap fun n => [.int .u64 n])) :
    Calls Try.prog 8 #[s.a, .slice A n c] w fun e w' => e = .returned (.bool true) ∧ Below w.heap.size w w' := by
  obtain rfl := hr.length (fun _ => rfl) (by omega)
  have hle := hr.le
  have GT := K.H.mk (fun (W : World) (hb : Below w.heap.size w W) => Total_c s ds hu A _ c W (hr.below hb))
  by_cases h : eTotal s ds = 0
  · have hok : Ok s ∧ ds.length ≤ 64 := by
      unfold eTotal at h
      split at h
      · split at h
        · exact ⟨by assumption, by assumption⟩
        · omega
      · omega
    obtain ⟨hs, h64⟩ := hok
    rw [(total_0 hs h64).1, (total_0 hs h64).2] at GT
    have Hs := K.H.mk hs
    have Hu := K.H.mk hu
    have Hr := K.H.mk hr
    have ht := tsum_in hs hu ds.length
    have hd1 : (tsum s ds ds.length == tsum s ds ds.length) = true := by simp
    have hd2 : decide ((ds.length : Int) ≤ tsum s ds ds.length) = true := by simpa using ht.1
    clear h hs hr hu
    go_enter Try.func8, Try.ntmps8
    go_wp2_with (first | (go_at_call 15; (with_reducible refine (alive_c _).mono ?_); rintro e W1 ⟨rfl, hb1⟩; obtain ⟨hB1, hC1, hF1, hZ1⟩ := K.bel_facts hb1; clear hb1; have hZZ := hZ1; (try simp at hZZ); have hz1_0 : w.heap.size < W1.heap.size := (by omega); clear hZZ) | (go_at_call 23; (with_reducible refine (GT.out _ (by repeat (first | (with_reducible exact Below.refl _ _) | (with_reducible refine K.b_bel ?_ (by assumption)) | (with_reducible refine K.b_alloc ?_ _) | (with_reducible refine K.b_drewN ?_ _) | (with_reducible refine K.b_drew ?_) | (with_reducible refine K.b_set ?_ (by first | omega | (simp <;> omega)) _) | (with_reducible refine K.b_only ?_ (by assumption) (by first | omega | (simp <;> omega)))))).mono ?_); rintro e W2 ⟨rfl, hb2⟩; obtain ⟨hB2, hC2, hF2, hZ2⟩ := K.bel_facts hb2; clear hb2; have hZZ := hZ2; (try simp at hZZ); have hz2_0 : w.heap.size < W2.heap.size := (by omega); (try have hz2_1_0 : W1.heap.size < W2.heap.size := (by omega)); (try have hz2_1_1 : W1.heap.size + 1 < W2.heap.size := (by omega)); clear hZZ) | (go_at_call 17; (with_reducible refine (num_c _ _).mono ?_); rintro e w' ⟨rfl, hw'⟩; have hw'2 := Eq.symm hw'; clear hw'; subst hw'2))
    refine K.wp_gen (fun W => K.At W w.heap.size 23 s.c ∧ Below w.heap.size w W) ⟨(by refine K.At.cast (by repeat (first | (with_reducible refine K.At.new' _ _ _ _ (by first | rfl | (simp; done) | omega)) | (with_reducible apply K.At.over hB2) | (with_reducible apply K.At.over hB1) | (with_reducible apply K.At.set) | (with_reducible apply K.At.alloc) | (with_reducible apply K.At.drewN) | (with_reducible apply K.At.drew) | (with_reducible apply K.At.far) | omega | (simp <;> omega))) ?_; rfl), (by repeat (first | (with_reducible exact Below.refl _ _) | (with_reducible refine K.b_bel ?_ (by assumption)) | (with_reducible refine K.b_alloc ?_ _) | (with_reducible refine K.b_drewN ?_ _) | (with_reducible refine K.b_drew ?_) | (with_reducible refine K.b_set ?_ (by first | omega | (simp <;> omega)) _) | (with_reducible refine K.b_only ?_ (by assumption) (by first | omega | (simp <;> omega)))))⟩ ?_
    rintro W3 ⟨hA, hb3⟩
    have Hb3 := K.H.mk hb3
    clear hb3
    ((try clear hC2); (try clear hF2); (try clear hZ2); (try clear hc2); (try clear hf2); (try clear hl2); (try clear hB2); (try clear hO2); (try clear hA2); (try clear hz2_0); (try clear hz2_1); (try clear hz2_2); (try clear hz2_3); (try clear hz2_1_0); (try clear hz2_1_1); (try clear hC1); (try clear hF1); (try clear hZ1); (try clear hc1); (try clear hf1); (try clear hl1); (try clear hB1); (try clear hO1); (try clear hA1); (try clear hz1_0); (try clear hz1_1); (try clear hz1_2); (try clear hz1_3); (try clear GT))
    go_loopw [7, 8] (fun t i wr => ∃ k : Nat, k ≤ ds.length ∧ i = .int .i64 k ∧ t = .int .i64 (tsum s ds k) ∧ K.At wr w.heap.size 23 s.c ∧ K.H (Below w.heap.size w wr)) (fun _ i _ => ds.length - (intOf i).toNat)
    case atStart => exact ⟨0, by omega, rfl, rfl, hA, Hb3⟩
    case round =>
      clear hA Hb3
      obtain ⟨k, hk, rfl, rfl, hA, Hb⟩ := hrel
      obtain ⟨hc5, hf5, hl5⟩ := K.At.facts hA
      by_cases hlt : k < ds.length
      · obtain ⟨d, hx⟩ : ∃ d, ds[k]? = some d := ⟨_, List.getElem?_eq_getElem hlt⟩
        have hdd := Hu.out d (List.mem_of_getElem? hx)
        have h1 := tsum_in Hs.out Hu.out k
        have h3 := tsum_in Hs.out Hu.out (k + 1)
        have HT : tsum s ds (k + 1) = tsum s ds k + oDelay s (k + 1) d := by rw [(del_0 Hs.out hx (by omega)).1]; rfl
        have GD := K.H.mk (fun W => by have h4 := Delay_c s (k + 1) d W hdd.1 hdd.2; rw [(del_0 Hs.out hx (by omega)).2] at h4; exact h4)
        rw [HT] at h3
        have HT := K.H.mk HT
        obtain ⟨b, off, rfl, hbl, hbc⟩ := Sl.Rds.elem Hr.out (enc := fun n => [.int .u64 n]) (fun _ => rfl) (by omega) hx
        have q_0 : wr.cell? ⟨b, off + k, none⟩ = some (.int .u64 d) := by
          have := (Hb.out.cell (p := ⟨b, off + k * 1 + 0, none⟩) hbl).trans (hbc 0 (by omega))
          simpa using this
        have hbw : b < wr.heap.size := Nat.lt_of_lt_of_le hbl Hb.out.size
        have hki : (k : Int) < ds.length := by omega
        generalize oDelay s (k + 1) d = y at *
        have hw1 : IntKind.i64.wrap ((k : Int) + 1) = k + 1 := K.i64_in (by omega) (by omega)
        clear hx hbc hd1 hd2
        go_wp2
        refine K.wp_region_ext_lit (by kernel_rfl) (by kernel_rfl) ?_
        repeat (any_goals (first | go_big_quiet_skip | quiet_step ((go_at_call 20; first | (with_reducible exact K.q_below (GD.out _)))) | (refine wpQuiet_step (fun K hK => ?_); go_simp; split <;> (refine hK _ ?_; clear hK K))))
        all_goals (refine wpQuiet_nil ?_; intro W9 hW9; obtain ⟨hB9, hC9, hF9, hZ9⟩ := K.ext_facts hW9; clear hW9; have hA_9 := K.At.bel hA hB9)
        go_wp2_with (first | (go_at_call 17; (with_reducible refine (num_c _ _).mono ?_); rintro e w' ⟨rfl, hw'⟩; have hw'2 := Eq.symm hw'; clear hw'; subst hw'2))
        go_roundw
        case rel => exact ⟨k + 1, by omega, by go_num, by rw [HT.out], hA_9, ⟨(by repeat (first | (with_reducible exact Below.refl _ _) | (with_reducible exact Hb.out) | (with_reducible refine K.b_bel ?_ (by assumption)) | (with_reducible refine K.b_alloc ?_ _) | (with_reducible refine K.b_drewN ?_ _) | (with_reducible refine K.b_drew ?_) | (with_reducible refine K.b_set ?_ (by first | omega | (simp <;> omega)) _) | (with_reducible refine K.b_only ?_ (by assumption) (by first | omega | (simp <;> omega)))))⟩⟩
        case measure => simp [intOf]; omega
      · obtain rfl : k = ds.length := by omega
        go_wp2
        go_ret
        exact ⟨rfl, Hb.out⟩
  · have hd : (eTotal s ds != 0) = true := by simp [h]
    rw [show oTotal s ds = 0 by simp [oTotal, h]] at GT
    generalize eTotal s ds = x at *
    clear h hr hu
    go_enter Try.func8, Try.ntmps8
    go_wp2_with (first | (go_at_call 15; (with_reducible refine (alive_c _).mono ?_); rintro e W1 ⟨rfl, hb1⟩; obtain ⟨hB1, hC1, hF1, hZ1⟩ := K.bel_facts hb1; clear hb1; have hZZ := hZ1; (try simp at hZZ); have hz1_0 : w.heap.size < W1.heap.size := (by omega); clear hZZ) | (go_at_call 23; (with_reducible refine (GT.out _ (by repeat (first | (with_reducible exact Below.refl _ _) | (with_reducible refine K.b_bel ?_ (by assumption)) | (with_reducible refine K.b_alloc ?_ _) | (with_reducible refine K.b_drewN ?_ _) | (with_reducible refine K.b_drew ?_) | (with_reducible refine K.b_set ?_ (by first | omega | (simp <;> omega)) _) | (with_reducible refine K.b_only ?_ (by assumption) (by first | omega | (simp <;> omega)))))).mono ?_); rintro e W2 ⟨rfl, hb2⟩; obtain ⟨hB2, hC2, hF2, hZ2⟩ := K.bel_facts hb2; clear hb2; have hZZ := hZ2; (try simp at hZZ); have hz2_0 : w.heap.size < W2.heap.size := (by omega); (try have hz2_1_0 : W1.heap.size < W2.heap.size := (by omega)); (try have hz2_1_1 : W1.heap.size + 1 < W2.heap.size := (by omega)); clear hZZ) | (go_at_call 17; (with_reducible refine (num_c _ _).mono ?_); rintro e w' ⟨rfl, hw'⟩; have hw'2 := Eq.symm hw'; clear hw'; subst hw'2))
    go_ret
    exact ⟨rfl, (by repeat (first | (with_reducible exact Below.refl _ _) | (with_reducible refine K.b_bel ?_ (by assumption)) | (with_reducible refine K.b_alloc ?_ _) | (with_reducible refine K.b_drewN ?_ _) | (with_reducible refine K.b_drew ?_) | (with_reducible refine K.b_set ?_ (by first | omega | (simp <;> omega)) _) | (with_reducible refine K.b_only ?_ (by assumption) (by first | omega | (simp <;> omega)))))⟩
end Go.Proofs.Ytimdfnhagjlkoaa.Bof
