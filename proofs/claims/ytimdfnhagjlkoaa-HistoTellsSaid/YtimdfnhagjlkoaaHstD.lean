/- HistoQuantiles: the plain law, and the walk. -/
import Derived.Test.YtimdfnhagjlkoaaHstB
set_option linter.unusedVariables false
namespace Go.Proofs.Ytimdfnhagjlkoaa.Hst
open Go.RowKit Go.Proofs.Ytimdfnhagjlkoaa
attribute [local go_sem] K.max2_int K.min2_int K.max_two K.min_two K.max_three K.min_three
set_option linter.unusedSimpArgs false
theorem rds_vals {w : World} {R : Nat} {ys : List Int} (h : K.At w R 3 (vals ys)) (hl : ys.length ≤ 81) : Sl.Rds w 1 (some ⟨R, 0, none⟩) ys.length (ys.flatMap I1) := by
  refine ⟨by rw [← Sl.map_flat]; simp, by simp [maxLen]; omega, fun _ => ⟨R, 0, rfl, h.lt, fun j hj => ?_⟩⟩
  rw [Nat.zero_add, h.cell, ← Sl.map_flat]
  simp
/-- How many of some numbers lie in the first j buckets. -/
def cnt (ns : List Int) (j : Nat) : Int := (ns.countP fun n => decide (bk n < j) : Nat)
theorem cnt_snoc (ns : List Int) (n : Int) (j : Nat) : cnt (ns ++ [n]) j = cnt ns j + if bk n < j then 1 else 0 := by
  unfold cnt
  rw [List.countP_append]
  simp only [List.countP_cons, List.countP_nil, decide_eq_true_eq]
  split <;> simp
theorem cnt_in (ns : List Int) (j : Nat) : 0 ≤ cnt ns j ∧ cnt ns j ≤ ns.length := by
  have := List.countP_le_length (p := fun n => decide (bk n < j)) (l := ns)
  unfold cnt
  omega
theorem take_set_sum : ∀ {ys : List Int} {k j : Nat} {x : Int} (v : Int), ys[k]? = some x → ((ys.set k v).take j).sum = (ys.take j).sum + if k < j then v - x else 0
  | [], k, j, x, v, h => by simp at h
  | y :: ys, k, 0, x, v, h => by simp
  | y :: ys, 0, j + 1, x, v, h => by
    simp at h
    subst h
    simp; omega
  | y :: ys, k + 1, j + 1, x, v, h => by
    have := take_set_sum (ys := ys) (k := k) (j := j) (x := x) v (by simpa using h)
    simp only [List.set_cons_succ, List.take_succ_cons, List.sum_cons, this]
    split <;> split <;> omega
theorem adds_sum {ns : List Int} (hn : ∀ n ∈ ns, 0 ≤ n) (hl : (ns.length : Int) ≤ 1073741824) (j : Nat) : ∀ k, k ≤ ns.length → ((adds (pad []) (ns.take k)).take j).sum = cnt (ns.take k) j
  | 0, _ => by
    simp only [adds, List.take_zero, List.foldl_nil, cnt, List.countP_nil]
    unfold pad
    rw [List.nil_append, List.take_replicate]
    simp
  | k + 1, hk => by
    obtain ⟨n, hx⟩ : ∃ n, ns[k]? = some n := ⟨_, List.getElem?_eq_getElem (by omega)⟩
    have hf := full_adds (full_pad (xs := []) (t := 0) ⟨.inl rfl, rfl, rfl, by omega⟩) hn k (by omega) (by omega)
    obtain ⟨x, hy, hyg, _⟩ := full_inc hf (bk_in (hn n (List.mem_of_getElem? hx))).2 (by omega)
    rw [adds_take _ hx]
    unfold inc
    rw [hyg, take_set_sum _ hy, adds_sum hn hl j k (by omega)]
    obtain ⟨hkl, he⟩ := List.getElem?_eq_some_iff.1 hx
    rw [List.take_succ_eq_append_getElem hkl, he, cnt_snoc]
    split <;> omega
theorem top_back : ∀ k : Fin 81, bkt (K.mn (tpp (k.val : Int)) 1048576) = k.val ∧ 0 ≤ tpp (k.val : Int) := by decide +kernel
theorem bk_le {n : Int} (hn : 0 ≤ n) {k : Nat} (hk : k < 81) : K.mn n 1048576 ≤ tpp k ↔ bk n < k + 1 := by
  have hm : 0 ≤ K.mn n 1048576 ∧ K.mn n 1048576 ≤ 1048576 := by unfold K.mn; split <;> omega
  obtain ⟨⟨l1, l2⟩, l3, l4, l5, l6, l7⟩ := law_all hm.1 hm.2
  obtain ⟨e, hb⟩ := bk_in hn
  rw [e] at l1 l2 l3 l7
  constructor
  · intro h
    apply Classical.byContradiction
    intro hc
    have h7 := l7 (by omega)
    rw [show (bk n : Int) - 1 = ((bk n - 1 : Nat) : Int) by omega] at h7
    have := tpp_mono (j := k) (k := bk n - 1) (by omega) (by omega)
    omega
  · intro h
    have := tpp_mono (j := bk n) (k := k) (by omega) (by omega)
    omega
theorem oQ_nil (m : Int) : oQ [] 0 m = 0 := by
  have h : HOk [] 0 := ⟨.inl rfl, rfl, rfl, by omega⟩
  by_cases hm : 1 ≤ m ∧ m ≤ 1000
  · exact (q_71 h hm rfl).2
  · exact (q_4 h hm).2
theorem oQ_no {xs : List Int} {t m : Int} (h : eQ xs t m ≠ 0) : oQ xs t m = 0 := by unfold oQ; rw [if_neg h]
theorem eQ_ok {xs : List Int} {t m : Int} (h : eQ xs t m = 0) : HOk xs t ∧ (1 ≤ m ∧ m ≤ 1000) ∧ t ≠ 0 := by
  have hok : HOk xs t := Classical.byContradiction fun hc => by have := (q_9 (m := m) hc).1; omega
  have hp : 1 ≤ m ∧ m ≤ 1000 := Classical.byContradiction fun hc => by have := (q_4 hok hc).1; omega
  exact ⟨hok, hp, fun hc => by have := (q_71 hok hp hc).1; omega⟩
set_option maxRecDepth 100000 in
set_option maxHeartbeats 4000000 in
theorem Quants_c (ns : List Int) (m : Int) (B : Option Addr) (n d : Nat) (w : World) (hs : Sl.Rds w 1 B n (ns.flatMap I1)) :
    Calls Try.prog 11 #[.slice B n d, .int .i64 m] w fun e w' => e = .returned (.bool true) ∧ Below w.heap.size w w' := by
  obtain rfl := hs.length (fun _ => rfl) (by omega)
  have hle2 := hs.le
  have Hs := K.H.mk hs
  clear hs
  by_cases he : eAdd [] 0 ns = 0
  · obtain ⟨hok, hneg, hlen⟩ := eAdd_ok he
    have hlen : (ns.length : Int) ≤ 1073741824 := by omega
    have hn : ∀ n ∈ ns, 0 ≤ n := fun n hm => by have := Sl.anyOf_false hneg n hm; simpa [neg] using this
    have hfull := full_adds (full_pad hok) hn ns.length (by omega) (by omega)
    have GA := K.H.mk (fun (W : World) (hb : Below w.heap.size w W) => Add_ok [] 0 ns none B 0 0 _ d W (Sl.Rds.nil _ _ _) (Hs.out.below hb) hok hneg (by omega))
    have hsum := fun j => adds_sum hn hlen j ns.length (by omega)
    rw [List.take_length] at hfull
    simp only [List.take_length] at hsum
    simp only [Int.zero_add] at hfull GA
    generalize hys : adds (pad []) ns = ys at *
    have GQ := K.H.mk (fun (W : World) (R : Nat) (hR : K.At W R 3 (vals ys)) => by
      have h2 := Quantile_c ys ns.length m (some ⟨R, 0, none⟩) ys.length 81 W (rds_vals hR (by have := hfull.2; omega))
      rw [hfull.2] at h2
      exact h2)
    clear hys he hok hneg
    by_cases hq : eQ ys ns.length m = 0
    · obtain ⟨hok, hm, ht0⟩ := eQ_ok hq
      have hw := want_in (t := (ns.length : Int)) hm (by omega)
      obtain ⟨k, hk⟩ := qat_is (xs := ys) (l := want m ns.length) (by omega) (by have := hok.2.2.1; omega)
      have hk81 : k < 81 := by have := hk.1; have := hfull.2; omega
      have hqv : oQ ys ns.length m = tpp k := by rw [(q_0 hok hm ht0).2, qat_of hok.2.1 hk]
      have hlow : cnt ns k < want m ns.length := by rw [← hsum]; exact hk.2.1
      have hnot : want m ns.length ≤ cnt ns (k + 1) := by rw [← hsum]; exact hk.2.2
      have htb := top_back ⟨k, hk81⟩
      simp only at htb
      have GB := K.H.mk (fun W => rBucket_c (tpp k) W)
      rw [show eBkt (tpp k) = 0 by unfold eBkt; rw [if_neg (by omega)], show oBkt (tpp k) = k by unfold oBkt; rw [if_neg (by omega), htb.1]] at GB
      rw [hq, hqv] at GQ
      have Hbl := K.H.mk (fun n hn => bk_le (n := n) hn hk81)
      have Hn := K.H.mk hn
      have a : 1 * (ns.length : Int) ≤ m * ns.length := Int.mul_le_mul_of_nonneg_right hm.1 (by omega)
      have b : m * (ns.length : Int) ≤ 1000 * ns.length := Int.mul_le_mul_of_nonneg_right hm.2 (by omega)
      have hdv : (m * (ns.length : Int) + 999).tdiv 1000 = want m ns.length := by rw [Int.tdiv_eq_ediv_of_nonneg (by omega)]; rfl
      have c1 : decide (want m ns.length ≤ cnt ns (k + 1)) = true := by simpa using hnot
      have c2 : decide (cnt ns k < want m ns.length) = true := by simpa using hlow
      clear hq hqv hlow hnot hsum hfull hok hk htb hn ht0
      generalize tpp (k : Int) = q at *
      generalize want m ns.length = v at *
      go_enter Try.func11, Try.ntmps11
      go_wp2_with (first | (go_at_call 28; (with_reducible refine (alive_c _).mono ?_); rintro e W1 ⟨rfl, hb1⟩; obtain ⟨hB1, hC1, hF1, hZ1⟩ := K.bel_facts hb1; clear hb1) | (go_at_call 33; (with_reducible refine (GA.out _ (by repeat (first | (with_reducible exact Below.refl _ _) | (with_reducible refine K.b_bel ?_ (by assumption)) | (with_reducible refine K.b_alloc ?_ _) | (with_reducible refine K.b_drewN ?_ _) | (with_reducible refine K.b_drew ?_) | (with_reducible refine K.b_set ?_ (by first | omega | (simp <;> omega)) _) | (with_reducible refine K.b_only ?_ (by assumption) (by first | omega | (simp <;> omega)))))).mono ?_); rintro e W2 ⟨R2, rfl, hR2, hAR2, hb2⟩; obtain ⟨hB2, hC2, hF2, hZ2⟩ := K.bel_facts hb2; clear hb2) | (go_at_call 32; (with_reducible refine (GQ.out _ _ (hAR2.alloc _)).mono ?_); rintro e W3 ⟨rfl, hb3⟩; obtain ⟨hB3, hC3, hF3, hZ3⟩ := K.bel_facts hb3; clear hb3) | (go_at_call 34; (with_reducible refine (GB.out _).mono ?_); rintro e w' ⟨rfl, hw'⟩; have hw'2 := Eq.symm hw'; clear hw'; subst hw'2) | (go_at_call 30; (with_reducible refine (num_c _ _).mono ?_); rintro e w' ⟨rfl, hw'⟩; have hw'2 := Eq.symm hw'; clear hw'; subst hw'2))
      have hbw : Below w.heap.size w W3 := (by repeat (first | (with_reducible exact Below.refl _ _) | (with_reducible refine K.b_bel ?_ (by assumption)) | (with_reducible refine K.b_alloc ?_ _) | (with_reducible refine K.b_drewN ?_ _) | (with_reducible refine K.b_drew ?_) | (with_reducible refine K.b_set ?_ (by first | omega | (simp <;> omega)) _) | (with_reducible refine K.b_only ?_ (by assumption) (by first | omega | (simp <;> omega)))))
      have Hbw := K.H.mk hbw
      clear hbw GA GQ hAR2 a b hw hdv
      ((try clear hC3); (try clear hF3); (try clear hZ3); (try clear hc3); (try clear hf3); (try clear hl3); (try clear hB3); (try clear hO3); (try clear hA3); (try clear hz3_0); (try clear hz3_1); (try clear hz3_2); (try clear hz3_3); (try clear hz3_1_0); (try clear hz3_1_1); (try clear hz3_2_0); (try clear hz3_2_1); (try clear hC2); (try clear hF2); (try clear hZ2); (try clear hc2); (try clear hf2); (try clear hl2); (try clear hB2); (try clear hO2); (try clear hA2); (try clear hz2_0); (try clear hz2_1); (try clear hz2_2); (try clear hz2_3); (try clear hz2_1_0); (try clear hz2_1_1); (try clear hC1); (try clear hF1); (try clear hZ1); (try clear hc1); (try clear hf1); (try clear hl1); (try clear hB1); (try clear hO1); (try clear hA1); (try clear hz1_0); (try clear hz1_1); (try clear hz1_2); (try clear hz1_3))
      go_loop [12, 13, 14] (fun low nt i => ∃ j : Nat, j ≤ ns.length ∧ i = .int .i64 j ∧ low = .int .i64 (cnt (ns.take j) k) ∧ nt = .int .i64 (cnt (ns.take j) (k + 1))) (fun _ _ i => ns.length - (intOf i).toNat)
      case atStart => exact ⟨0, by omega, rfl, rfl, rfl⟩
      case round =>
        obtain ⟨j, hj, rfl, rfl, rfl⟩ := hrel
        by_cases hlt : j < ns.length
        · obtain ⟨x, hx⟩ : ∃ x, ns[j]? = some x := ⟨_, List.getElem?_eq_getElem hlt⟩
          have hx0 := Hn.out x (List.mem_of_getElem? hx)
          have hbk := bk_in hx0
          obtain ⟨b9, off9, rfl, hbl9, hbc9⟩ := Sl.Rds.elem Hs.out (enc := fun n => [.int .i64 n]) (fun _ => rfl) (by omega) hx
          have q9_0 : W3.cell? ⟨b9, off9 + j, none⟩ = some (.int .i64 x) := by
            have := (Hbw.out.cell (p := ⟨b9, off9 + j * 1 + 0, none⟩) hbl9).trans (hbc9 0 (by omega))
            simpa using this
          have hbw9 : b9 < W3.heap.size := Nat.lt_of_lt_of_le hbl9 Hbw.out.size
          have GX := K.H.mk (fun W => rBucket_c x W)
          rw [show eBkt x = 0 by unfold eBkt; rw [if_neg (by omega)], show oBkt x = bk x by unfold oBkt; rw [if_neg (by omega), hbk.1]] at GX
          have hi1 := cnt_in (ns.take j) k
          have hi2 := cnt_in (ns.take j) (k + 1)
          rw [List.length_take, Nat.min_eq_left (by omega)] at hi1 hi2
          have Hc := K.H.mk (fun i => by obtain ⟨h1, h2⟩ := List.getElem?_eq_some_iff.1 hx; rw [List.take_succ_eq_append_getElem h1, h2, cnt_snoc] : ∀ i, cnt (ns.take (j + 1)) i = cnt (ns.take j) i + if bk x < i then 1 else 0)
          have Hc1 := K.H.mk (Hc.out k)
          have Hc2 := K.H.mk (Hc.out (k + 1))
          clear Hc
          have hb2 := Hbl.out x hx0
          clear hx hbc9 hbk
          generalize cnt (ns.take j) k = lo at *
          generalize cnt (ns.take j) (k + 1) = nt at *
          generalize bk x = e at *
          have hek : ((e : Int) < k) ↔ e < k := by omega
          by_cases h1 : e < k
          · have d1 : decide (e < k) = true := decide_eq_true h1
            have d2 : decide (K.mn x 1048576 ≤ q) = true := decide_eq_true (hb2.2 (by omega))
            have Hk := K.H.mk h1
            clear hb2 hek h1
            go_wp2_with (first | (go_at_call 34; (with_reducible refine (GX.out _).mono ?_); rintro e w' ⟨rfl, hw'⟩; have hw'2 := Eq.symm hw'; clear hw'; subst hw'2))
            go_round
            case rel => exact ⟨j + 1, by omega, by go_num, by rw [Hc1.out, if_pos Hk.out], by rw [Hc2.out, if_pos (by have := Hk.out; omega)]⟩
            case measure => simp [intOf]; omega
          · have d1 : decide (e < k) = false := decide_eq_false h1
            have Hk := K.H.mk h1
            by_cases h2 : e < k + 1
            · have d2 : decide (K.mn x 1048576 ≤ q) = true := decide_eq_true (hb2.2 h2)
              have Hk2 := K.H.mk h2
              clear hb2 hek h1 h2
              go_wp2_with (first | (go_at_call 34; (with_reducible refine (GX.out _).mono ?_); rintro e w' ⟨rfl, hw'⟩; have hw'2 := Eq.symm hw'; clear hw'; subst hw'2))
              go_round
              case rel => exact ⟨j + 1, by omega, by go_num, by rw [Hc1.out, if_neg Hk.out, Int.add_zero], by rw [Hc2.out, if_pos Hk2.out]⟩
              case measure => simp [intOf]; omega
            · have d2 : decide (K.mn x 1048576 ≤ q) = false := decide_eq_false (fun h => h2 (hb2.1 h))
              have Hk2 := K.H.mk h2
              clear hb2 hek h1 h2
              go_wp2_with (first | (go_at_call 34; (with_reducible refine (GX.out _).mono ?_); rintro e w' ⟨rfl, hw'⟩; have hw'2 := Eq.symm hw'; clear hw'; subst hw'2))
              go_round
              case rel => exact ⟨j + 1, by omega, by go_num, by rw [Hc1.out, if_neg Hk.out, Int.add_zero], by rw [Hc2.out, if_neg Hk2.out, Int.add_zero]⟩
              case measure => simp [intOf]; omega
        · obtain rfl : j = ns.length := by omega
          rw [List.take_length]
          go_wp2
          go_ret
          exact ⟨rfl, Hbw.out⟩
    · have hd2 : (eQ ys ns.length m != 0) = true := by simp [hq]
      rw [oQ_no hq] at GQ
      clear hsum hfull hn hq
      generalize eQ ys ns.length m = er at *
      go_enter Try.func11, Try.ntmps11
      go_wp2_with (first | (go_at_call 28; (with_reducible refine (alive_c _).mono ?_); rintro e W1 ⟨rfl, hb1⟩; obtain ⟨hB1, hC1, hF1, hZ1⟩ := K.bel_facts hb1; clear hb1) | (go_at_call 33; (with_reducible refine (GA.out _ (by repeat (first | (with_reducible exact Below.refl _ _) | (with_reducible refine K.b_bel ?_ (by assumption)) | (with_reducible refine K.b_alloc ?_ _) | (with_reducible refine K.b_drewN ?_ _) | (with_reducible refine K.b_drew ?_) | (with_reducible refine K.b_set ?_ (by first | omega | (simp <;> omega)) _) | (with_reducible refine K.b_only ?_ (by assumption) (by first | omega | (simp <;> omega)))))).mono ?_); rintro e W2 ⟨R2, rfl, hR2, hAR2, hb2⟩; obtain ⟨hB2, hC2, hF2, hZ2⟩ := K.bel_facts hb2; clear hb2) | (go_at_call 32; (with_reducible refine (GQ.out _ _ (hAR2.alloc _)).mono ?_); rintro e W3 ⟨rfl, hb3⟩; obtain ⟨hB3, hC3, hF3, hZ3⟩ := K.bel_facts hb3; clear hb3) | (go_at_call 30; (with_reducible refine (num_c _ _).mono ?_); rintro e w' ⟨rfl, hw'⟩; have hw'2 := Eq.symm hw'; clear hw'; subst hw'2))
      go_ret
      exact ⟨rfl, (by repeat (first | (with_reducible exact Below.refl _ _) | (with_reducible refine K.b_bel ?_ (by assumption)) | (with_reducible refine K.b_alloc ?_ _) | (with_reducible refine K.b_drewN ?_ _) | (with_reducible refine K.b_drew ?_) | (with_reducible refine K.b_set ?_ (by first | omega | (simp <;> omega)) _) | (with_reducible refine K.b_only ?_ (by assumption) (by first | omega | (simp <;> omega)))))⟩
  · have hd : (eAdd [] 0 ns != 0) = true := by simp [he]
    have GA := K.H.mk (fun (W : World) (hb : Below w.heap.size w W) => Add_bad [] 0 ns none B 0 0 _ d W (Sl.Rds.nil _ _ _) (Hs.out.below hb) he)
    have GQ := K.H.mk (fun W => Quantile_c [] 0 m none 0 0 W (Sl.Rds.nil _ _ _))
    rw [oQ_nil] at GQ
    clear he
    generalize eAdd [] 0 ns = er at *
    generalize eQ [] 0 m = er2 at *
    go_enter Try.func11, Try.ntmps11
    go_wp2_with (first | (go_at_call 28; (with_reducible refine (alive_c _).mono ?_); rintro e W1 ⟨rfl, hb1⟩; obtain ⟨hB1, hC1, hF1, hZ1⟩ := K.bel_facts hb1; clear hb1) | (go_at_call 33; (with_reducible refine (GA.out _ (by repeat (first | (with_reducible exact Below.refl _ _) | (with_reducible refine K.b_bel ?_ (by assumption)) | (with_reducible refine K.b_alloc ?_ _) | (with_reducible refine K.b_drewN ?_ _) | (with_reducible refine K.b_drew ?_) | (with_reducible refine K.b_set ?_ (by first | omega | (simp <;> omega)) _) | (with_reducible refine K.b_only ?_ (by assumption) (by first | omega | (simp <;> omega)))))).mono ?_); rintro e W2 ⟨rfl, hb2⟩; obtain ⟨hB2, hC2, hF2, hZ2⟩ := K.bel_facts hb2; clear hb2) | (go_at_call 32; (with_reducible refine (GQ.out _).mono ?_); rintro e W3 ⟨rfl, hb3⟩; obtain ⟨hB3, hC3, hF3, hZ3⟩ := K.bel_facts hb3; clear hb3) | (go_at_call 30; (with_reducible refine (num_c _ _).mono ?_); rintro e w' ⟨rfl, hw'⟩; have hw'2 := Eq.symm hw'; clear hw'; subst hw'2))
    go_ret
    exact ⟨rfl, (by repeat (first | (with_reducible exact Below.refl _ _) | (with_reducible refine K.b_bel ?_ (by assumption)) | (with_reducible refine K.b_alloc ?_ _) | (with_reducible refine K.b_drewN ?_ _) | (with_reducible refine K.b_drew ?_) | (with_reducible refine K.b_set ?_ (by first | omega | (simp <;> omega)) _) | (with_reducible refine K.b_only ?_ (by assumption) (by first | omega | (simp <;> omega)))))⟩
end Go.Proofs.Ytimdfnhagjlkoaa.Hst
