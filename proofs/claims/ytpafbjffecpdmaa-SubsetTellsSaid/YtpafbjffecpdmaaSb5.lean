/- Subset: what a place gets. -/
import Derived.Test.YtpafbjffecpdmaaSb4
set_option linter.unusedVariables false
namespace Go.Proofs.Ytpafbjffecpdmaa.Sb
open Go.RowKit Go.Proofs.Ytpafbjffecpdmaa
attribute [local go_sem] K.max2_int K.min2_int K.max_two K.min_two K.max_three K.min_three
set_option linter.unusedSimpArgs false
/-! ### The order is one of all places -/
theorem set_perm (L : List Int) {k m : Nat} (hk : k < L.length) (hm : m < L.length) : (swp L k m).Perm L := by
  unfold swp
  have := List.set_set_perm hk hm
  rwa [show L.getD m 0 = L[m] from by rw [List.getD_eq_getElem?_getD, List.getElem?_eq_getElem hm]; rfl, show L.getD k 0 = L[k] from by rw [List.getD_eq_getElem?_getD, List.getElem?_eq_getElem hk]; rfl]
theorem shufL_perm {nx : Nat → Nat} {bl : Nat → Nat → Nat} (hb : ∀ s n, 1 ≤ n → bl s n < n) : ∀ (m s : Nat) (L : List Int), m ≤ L.length → (shufL nx bl m s L).2.Perm L
  | 0, s, L, _ => List.Perm.refl _
  | m + 1, s, L, h => by
    by_cases h0 : m = 0
    · rw [shufL_end (by omega)]
    · rw [shufL_step (by omega)]
      have h1 := hb s (m + 1) (by omega)
      exact (shufL_perm hb m _ _ (by rw [swp_len]; omega)).trans (set_perm L (by omega) (by omega))
theorem shufG_perm {nx : Nat → Nat} {bl : Nat → Nat → Nat} (hb : ∀ s n, 1 ≤ n → bl s n < n) (s n : Nat) : (shufG nx bl s n).2.Perm (rangeI n) := by
  unfold shufG; exact shufL_perm hb n s (rangeI n) (by rw [rangeI_len]; omega)
theorem mem_rangeI {n : Nat} {x : Int} (h : x ∈ rangeI n) : ∃ k : Nat, x = (k : Int) ∧ k < n := by
  unfold rangeI at h
  obtain ⟨k, hk, rfl⟩ := List.mem_map.1 h
  exact ⟨k, rfl, List.mem_range.1 hk⟩
theorem order_at {O : List Int} {n k : Nat} (h : O.Perm (rangeI n)) (hk : k < n) : ∃ o : Nat, O[k]? = some (o : Int) ∧ O.getD k 0 = (o : Int) ∧ o < n := by
  have hl : O.length = n := by rw [h.length_eq, rangeI_len]
  have hm : O[k] ∈ rangeI n := h.mem_iff.1 (List.getElem_mem (by omega))
  obtain ⟨o, ho, hlt⟩ := mem_rangeI hm
  refine ⟨o, by rw [List.getElem?_eq_getElem (by omega), ho], ?_, hlt⟩
  rw [List.getD_eq_getElem?_getD, List.getElem?_eq_getElem (by omega), ho]; rfl
theorem shuf_perm (s n : Nat) : (shuf s n).2.Perm (rangeI n) := shufG_perm belN_lt s n
theorem rds_one (w : World) (g : Nat) (x : Int) (h : K.At w g 3 #[.int .i64 x]) : Sl.Rds w 1 (some ⟨g, 0, none⟩) 1 ([x].flatMap fun n => [.int .i64 n]) :=
  ⟨by simp, by simp [maxLen], fun _ => ⟨g, 0, rfl, h.lt, fun j hj => by rw [Nat.zero_add, h.cell]; simp⟩⟩
set_option maxRecDepth 100000 in
set_option maxHeartbeats 4000000 in
theorem hand_all (ids : List Int) (size seed r a : Int) (A : Option Addr) (n c : Nat) (w : World) (hr : Sl.Rds w 1 A n (ids.flatMap fun n => [.int .i64 n])) (hn : n ≤ 32) (h : (n : Int) ≤ size) :
    Calls Try.prog 31 #[.agg #[.slice A n c, .int .i64 size, .int .u64 seed], .agg #[.int .i64 r, .int .i64 a]] w fun e w' => ∃ v, e = .returned v ∧ w'.ownsRow w.heap.size 3 1 v n (ids.map iv) ∧ Below w.heap.size w w' := by
  have GC := K.H.mk (fun (W : World) (hb : Below w.heap.size w W) => clone_c (ids.flatMap fun n => [.int .i64 n]) A n c W (hr.below hb) (one_ints ids) (by omega))
  have d1 : decide ((n : Int) ≤ size) = true := decide_eq_true h
  clear hr h
  go_enter Try.func31, Try.ntmps31
  go_wp2_with (first | (go_at_call 37; (with_reducible refine (GC.out _ (by repeat (first | (with_reducible exact Below.refl _ _) | (with_reducible refine K.b_bel ?_ (by assumption)) | (with_reducible refine K.b_alloc ?_ _) | (with_reducible refine K.b_drewN ?_ _) | (with_reducible refine K.b_drew ?_) | (with_reducible refine K.b_set ?_ (by first | omega | (simp <;> omega)) _) | (with_reducible refine K.b_only ?_ (by assumption) (by first | omega | (simp <;> omega)))))).mono ?_); rintro e W2 ⟨⟨v2, rfl, hown2⟩, hb2⟩; have Hown2 := K.H.mk hown2; clear hown2; obtain ⟨hB2, hC2, hF2, hZ2⟩ := K.bel_facts hb2; clear hb2))
  go_ret
  refine ⟨v2, rfl, ?_, (by repeat (first | (with_reducible exact Below.refl _ _) | (with_reducible refine K.b_bel ?_ (by assumption)) | (with_reducible refine K.b_alloc ?_ _) | (with_reducible refine K.b_drewN ?_ _) | (with_reducible refine K.b_drew ?_) | (with_reducible refine K.b_set ?_ (by first | omega | (simp <;> omega)) _) | (with_reducible refine K.b_only ?_ (by assumption) (by first | omega | (simp <;> omega)))))⟩
  have := Hown2.out
  rw [flat_iv] at this
  exact Sl.own_low this (by simp; omega)
set_option maxRecDepth 100000 in
set_option maxHeartbeats 8000000 in
theorem handG (sh : Nat → Nat → Nat × List Int) (it : Nat → List Int → Nat) (hsh : ∀ s n, (sh s n).2.Perm (rangeI n)) (hit : ∀ s l, s < 18446744073709551616 → it s l < 18446744073709551616)
    (hI : ∀ (s : Nat) (xs : List Int) (A : Option Addr) (n c : Nat) (w : World), Sl.Rds w 1 A n (xs.flatMap fun n => [.int .i64 n]) → s < 18446744073709551616 → Calls Try.prog 43 #[.int .u64 s, .slice A n c] w fun e w' => e = .returned (.int .u64 (it s xs : Nat)) ∧ w' = w)
    (hS : ∀ (s n : Nat) (w : World), s < 18446744073709551616 → n ≤ 1024 → Calls Try.prog 42 #[.int .u64 s, .int .i64 n] w fun e w' => ∃ v, e = .returned (.tuple #[.int .u64 ((sh s n).1 : Nat), v, .int .i64 0]) ∧ w'.ownsRow w.heap.size 3 1 v n ((sh s n).2.map iv) ∧ Below w.heap.size w w')
    (ids : List Int) (z seed a : Nat) (r : Int) (A : Option Addr) (n c : Nat) (w : World) (hr : Sl.Rds w 1 A n (ids.flatMap fun n => [.int .i64 n])) (hn : n ≤ 32) (hs : seed < 18446744073709551616) (hz : 1 ≤ z) (hzn : z < n) (ha : a * z + z ≤ n) :
    Calls Try.prog 31 #[.agg #[.slice A n c, .int .i64 z, .int .u64 seed], .agg #[.int .i64 r, .int .i64 a]] w fun e w' => ∃ v, e = .returned v ∧ w'.ownsRow w.heap.size 3 1 v z ((sortI (pk ids (sh (it seed [r]) n).2 (a * z) z)).map iv) ∧ Below w.heap.size w w' := by
  obtain rfl := hr.length (fun _ => rfl) (by omega)
  have ha32 : a ≤ 32 := by have : a * 1 ≤ a * z := Nat.mul_le_mul_left a hz; omega
  obtain ⟨lo, hlo⟩ : ∃ lo, lo = a * z := ⟨_, rfl⟩
  have m1 : (a : Int) * (z : Int) = (lo : Int) := by rw [hlo, Int.natCast_mul]
  have m2 : ((a : Int) + 1) * (z : Int) = ((lo + z : Nat) : Int) := by rw [hlo, Int.add_mul, Int.natCast_add, Int.natCast_mul]; omega
  rw [← hlo] at ha ⊢
  clear hlo
  have m1w : IntKind.i64.wrap ((a : Int) * (z : Int)) = (lo : Int) := by rw [m1, K.i64_in (by omega) (by omega)]
  have m2w : IntKind.i64.wrap (((a : Int) + 1) * (z : Int)) = (lo : Int) + (z : Int) := by rw [m2, K.i64_in (by omega) (by omega)]; omega
  have hperm := hsh (it seed [r]) ids.length
  have GI := K.H.mk (fun (W : World) (g : Nat) (hA : K.At W g 3 #[.int .i64 r]) => hI seed [r] (some ⟨g, 0, none⟩) 1 1 W (rds_one W g r hA) hs)
  have GS := K.H.mk (fun (W : World) => hS (it seed [r]) ids.length W (hit _ _ hs) (by omega))
  generalize it seed [r] = s1 at *
  generalize hO : (sh s1 ids.length).2 = O at *
  generalize (sh s1 ids.length).1 = s2 at *
  have d1 : decide ((ids.length : Int) ≤ (z : Int)) = false := decide_eq_false (by omega)
  have d2 : decide (ids.length ≤ z) = false := decide_eq_false (by omega)
  have Hr := K.H.mk hr
  have HP := K.H.mk hperm
  clear hr hO m1 m2 hperm
  go_enter Try.func31, Try.ntmps31
  go_wp2
  refine K.wp_gen (fun W => K.At W w.heap.size 46 #[.slice A ids.length c, .int .i64 z, .int .u64 seed] ∧ K.At W (w.heap.size + 1) 58 #[.int .i64 r, .int .i64 a] ∧ Below w.heap.size w W) ⟨(by refine K.At.cast (by repeat (first | (with_reducible refine K.At.new' _ _ _ _ (by first | rfl | (simp; done) | omega)) | (with_reducible apply K.At.set) | (with_reducible apply K.At.alloc) | (with_reducible apply K.At.drewN) | (with_reducible apply K.At.drew) | (with_reducible apply K.At.far) | omega | (simp <;> omega))) ?_; rfl), (by refine K.At.cast (by repeat (first | (with_reducible refine K.At.new' _ _ _ _ (by first | rfl | (simp; done) | omega)) | (with_reducible apply K.At.set) | (with_reducible apply K.At.alloc) | (with_reducible apply K.At.drewN) | (with_reducible apply K.At.drew) | (with_reducible apply K.At.far) | omega | (simp <;> omega))) ?_; rfl), (by repeat (first | (with_reducible exact Below.refl _ _) | (with_reducible refine K.b_bel ?_ (by assumption)) | (with_reducible refine K.b_alloc ?_ _) | (with_reducible refine K.b_drewN ?_ _) | (with_reducible refine K.b_drew ?_) | (with_reducible refine K.b_set ?_ (by first | omega | (simp <;> omega)) _) | (with_reducible refine K.b_only ?_ (by assumption) (by first | omega | (simp <;> omega)))))⟩ ?_
  rintro W1 ⟨hD, hP, hb1⟩
  have Hb1 := K.H.mk hb1
  clear hb1
  obtain ⟨hc1, hf1, hl1⟩ := K.At.facts hD
  obtain ⟨hc2, hf2, hl2⟩ := K.At.facts hP
  refine K.wp_region_mix none (by kernel_rfl) (by kernel_rfl) ?_
  intro W9 hR9
  have hB9 := K.InR.bel hR9
  have hZ9 := K.inr_size hR9
  repeat (any_goals (first | refine K.wpMix_skip2 (by rfl) (by rfl) ?_ | (refine K.wpMix_skip (by rfl) ?_; go_simp) | (refine K.wpMix_want (by rfl) (by rfl) (fun Kq hK => ?_); go_simp; refine hK _ _ ?_; clear hK Kq) | (refine K.wpMix_ser (by rfl) (by rfl) (fun Kq hK => ?_); first | (fail; refine ⟨(by repeat (first | (with_reducible exact hR9) | (with_reducible refine K.inr_bel ?_ (by assumption)) | (with_reducible refine K.inr_alloc ?_ _) | (with_reducible refine K.inr_row ?_ (by assumption)) | (with_reducible refine K.inr_new ?_ (by first | omega | (simp <;> omega)) _))), hK _ _ ?_⟩; clear hK Kq) | (go_simp; first | (refine ⟨(by repeat (first | (with_reducible exact hR9) | (with_reducible refine K.inr_bel ?_ (by assumption)) | (with_reducible refine K.inr_alloc ?_ _) | (with_reducible refine K.inr_row ?_ (by assumption)) | (with_reducible refine K.inr_new ?_ (by first | omega | (simp <;> omega)) _))), hK _ _ ?_⟩; clear hK Kq) | ((first | (go_at_call 43; (with_reducible refine (GI.out _ _ (K.At.new' _ _ _ _ (by simp))).mono ?_); rintro e w' ⟨rfl, hw'⟩; have hw'2 := Eq.symm hw'; clear hw'; subst hw'2) | (go_at_call 42; (with_reducible refine (GS.out _).mono ?_); rintro e W5 ⟨v5, rfl, hown5, hb5⟩; obtain ⟨hB5, hC5, hF5, hZ5⟩ := K.bel_facts hb5; clear hb5)); refine ⟨_, rfl, (by repeat (first | (with_reducible exact hR9) | (with_reducible refine K.inr_bel ?_ (by assumption)) | (with_reducible refine K.inr_alloc ?_ _) | (with_reducible refine K.inr_row ?_ (by assumption)) | (with_reducible refine K.inr_new ?_ (by first | omega | (simp <;> omega)) _))), hK _ _ ?_⟩; clear hK Kq)))))
  all_goals refine K.wpMix_nil ?_
  obtain ⟨b5, c5, rfl, hbg5, hbl5⟩ := own_form hown5 (by omega)
  have hR5 := Sl.Rds.of_own2 hown5
  obtain ⟨_, _, he5, hnc5, hcm5, hR5⟩ := hR5
  cases he5
  have hD5 : K.At W5 w.heap.size 46 #[.slice A ids.length c, .int .i64 z, .int .u64 seed] := (by refine K.At.cast (by repeat (first | (with_reducible exact hD) | (with_reducible refine K.At.new' _ _ _ _ (by first | rfl | (simp; done) | omega)) | (with_reducible apply K.At.over hB5) | (with_reducible apply K.At.over hB9) | (with_reducible apply K.At.set) | (with_reducible apply K.At.alloc) | (with_reducible apply K.At.drewN) | (with_reducible apply K.At.drew) | (with_reducible apply K.At.far) | omega | (simp <;> omega))) ?_; rfl)
  have hP5 : K.At W5 (w.heap.size + 1) 58 #[.int .i64 r, .int .i64 a] := (by refine K.At.cast (by repeat (first | (with_reducible exact hP) | (with_reducible refine K.At.new' _ _ _ _ (by first | rfl | (simp; done) | omega)) | (with_reducible apply K.At.over hB5) | (with_reducible apply K.At.over hB9) | (with_reducible apply K.At.set) | (with_reducible apply K.At.alloc) | (with_reducible apply K.At.drewN) | (with_reducible apply K.At.drew) | (with_reducible apply K.At.far) | omega | (simp <;> omega))) ?_; rfl)
  have hb5 : Below w.heap.size w W5 := (by repeat (first | (with_reducible exact Below.refl _ _) | (with_reducible exact Hb1.out) | (with_reducible refine K.b_bel ?_ (by assumption)) | (with_reducible refine K.b_alloc ?_ _) | (with_reducible refine K.b_drewN ?_ _) | (with_reducible refine K.b_drew ?_) | (with_reducible refine K.b_set ?_ (by first | omega | (simp <;> omega)) _) | (with_reducible refine K.b_only ?_ (by assumption) (by first | omega | (simp <;> omega)))))
  have Hb5 := K.H.mk hb5
  have HR5 := K.H.mk (show Sl.Rds W5 1 (some ⟨b5, 0, none⟩) ids.length (O.flatMap fun n => [iv n]) by rw [flat_iv]; exact hR5)
  have hc9 : (c5 : Int) ≤ 9223372036854775807 := by unfold maxLen at hcm5; omega
  have hn5 : (ids.length : Int) ≤ (c5 : Int) := by omega
  have hw5 := hP5.lt
  have hlz : (lo : Int) + (z : Int) ≤ (ids.length : Int) := by omega
  clear hR5 hown5 hcm5 hD hP hb5 GI GS Hb1 hR9 hB9 hZ9 hB5 hC5 hF5 hZ5 hc1 hf1 hl1 hc2 hf2 hl2
  obtain ⟨hc1, hf1, hl1⟩ := K.At.facts hD5
  obtain ⟨hc2, hf2, hl2⟩ := K.At.facts hP5
  go_wp2
  rw [show lo + z - lo = z by omega]
  have HD := K.H.mk (K.Bel.mk (Below.refl W5.heap.size W5))
  clear hc1 hf1 hl1 hc2 hf2 hl2 m1w m2w d1 d2
  go_loopw [8, 48] (fun v i wr => ∃ k : Nat, k ≤ z ∧ i = .int .i64 k ∧ K.At wr w.heap.size 46 #[.slice A ids.length c, .int .i64 z, .int .u64 seed] ∧ wr.ownsRow W5.heap.size 3 1 v k ((pk ids O lo k).map iv) ∧ K.Bel W5 wr) (fun _ i _ => z - (intOf i).toNat)
  case atStart => exact ⟨0, by omega, rfl, hD5, World.ownsRow_nil _ _ _ _, HD.out⟩
  case round =>
    clear hD5 hP5 HD
    obtain ⟨k, hk, rfl, hD, hown, hB⟩ := hrel
    have hz5 := hB.out.size
    have Hwb := K.H.mk (Hb5.out.trans (hB.out.mono Hb5.out.size))
    obtain ⟨hc1, hf1, hl1⟩ := K.At.facts hD
    by_cases hlt : k < z
    · obtain ⟨o, ho, hog, holt⟩ := order_at (k := lo + k) HP.out (by omega)
      have hpk : pk ids O lo (k + 1) = pk ids O lo k ++ [ids.getD o 0] := by rw [pk_succ, hog, Int.toNat_natCast]
      obtain ⟨x, hx⟩ : ∃ x, ids[o]? = some x := ⟨_, List.getElem?_eq_getElem holt⟩
      have hxx : ids.getD o 0 = x := by rw [List.getD_eq_getElem?_getD, hx]; rfl
      rw [hxx] at hpk
      obtain ⟨b2, off2, he2, hbl2, hbc2⟩ := HR5.out.elem (enc := fun n => [iv n]) (fun _ => rfl) (by omega) (k := lo + k) (x := (o : Int)) ho
      cases he2
      have q2 := (hB.out.cell (p := ⟨b5, 0 + (lo + k) * 1 + 0, none⟩) hbl2).trans (hbc2 0 (by omega))
      simp at q2
      obtain ⟨b, off, rfl, hbl, hbc⟩ := Sl.Rds.elem Hr.out (enc := fun n => [.int .i64 n]) (fun _ => rfl) (by omega) hx
      have q_0 : wr.cell? ⟨b, off + o, none⟩ = some (.int .i64 x) := by
        have := (Hwb.out.cell (p := ⟨b, off + o * 1 + 0, none⟩) hbl).trans (hbc 0 (by omega))
        simpa using this
      have hbw : b < wr.heap.size := Nat.lt_of_lt_of_le hbl Hwb.out.size
      have hbw5 : b5 < wr.heap.size := by omega
      have hk2 : (k : Int) < (z : Int) := by omega
      have ho2 : (o : Int) < (ids.length : Int) := by omega
      have Hpk := K.H.mk hpk
      have hq := Sl.own_ne hown hD (by decide)
      have HD2 := K.H.mk hD
      have HB2 := K.H.mk hB
      have hbs : W5.heap.size ≤ wr.heap.size := hz5
      clear hx hbc hbc2 hpk hxx ho hog hD hB
      go_wp2_with (first | (at_builtin; refine Sl.app1 (news := [.int .i64 x]) rfl _ _ 22 3 (.int .i64 0) rfl Try.underlying22 (by kernel_rfl : (Try.prog.info? 3).map (fun i => (i.zero, i.size, i.bytes)) = some (some (.int .i64 0), 1, 8)) rfl (by decide) (by decide) rfl ((hown).alloc _) rfl rfl (Sl.new_cells _ _ _ _ (by first | rfl | simp)) (by simp [Value.oneCell']) (by omega) (by simp <;> omega) ?_; intro v8 W8 hown8 hgr8))
      go_roundw
      case rel =>
        refine ⟨k + 1, by omega, by go_num, Sl.at_grown (HD2.out.alloc _) hgr8 hq, by rw [Hpk.out]; simpa using hown8, ⟨?_⟩⟩
        exact Sl.below_grown (K.b_alloc HB2.out.out _) hgr8 (fun k hk => Sl.own_base hown k hk)
      case measure => simp [intOf]; omega
    · obtain rfl : k = z := by omega
      have GT := K.H.mk (Sort_c (pk ids O lo k) _ _ _ wr hown (by omega) (by omega))
      obtain ⟨b8, c8, rfl, hbg8, hbl8⟩ := own_form hown (by omega)
      clear hown
      go_wp2_with (first | (go_at_call 40; (with_reducible refine (GT.out).mono ?_); rintro e W9 ⟨rfl, hown9, hgr9⟩))
      go_ret
      exact ⟨_, rfl, Sl.own_low hown9 (by omega), Sl.below_grown Hwb.out hgr9 (fun k hk => by cases hk; show w.heap.size ≤ b8; omega)⟩
end Go.Proofs.Ytpafbjffecpdmaa.Sb
