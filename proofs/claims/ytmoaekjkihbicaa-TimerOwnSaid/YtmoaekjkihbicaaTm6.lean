/- Timer: push. -/
import Derived.Test.YtmoaekjkihbicaaTm5
import Derived.Test.YtmoaekjkihbicaaTmP
set_option linter.unusedVariables false
namespace Go.Proofs.Ytmoaekjkihbicaa.Tm
open Go.RowKit Go.Proofs.Ytmoaekjkihbicaa
set_option linter.unusedSimpArgs false
theorem form_t {w : World} {base n : Nat} {e : TypeId} {sz : Nat} {v : Value} {xs : List Value} (h : w.ownsRow base e sz v n xs) (hn : 0 < n) : ∃ g cap, v = .slice (some ⟨g, 0, none⟩) n cap ∧ base ≤ g ∧ g < w.heap.size := by
  rcases h.2 with ⟨_, h0⟩ | ⟨g, cap, cur, rfl, hb, hg, _⟩
  · omega
  · exact ⟨g, cap, rfl, hb, (Array.getElem?_eq_some_iff.1 hg).1⟩
set_option maxRecDepth 100000 in
set_option maxHeartbeats 8000000 in
theorem push_c (L : List Tm) (t : Tm) (gH base : Nat) (v : Value) (w : World) (hH : K.At w gH 57 #[v]) (hown : w.ownsRow base 25 2 v L.length (L.flatMap Tm.cs)) (hbase : base ≤ w.heap.size) (hn : L.length ≤ 1024) (hbg : base ≤ gH) :
    Calls Try.prog 31 #[.pointer (some ⟨gH, 0, none⟩), t.a] w fun e w' => e = .returned (.tuple #[]) ∧ ∃ v', K.At w' gH 57 #[v'] ∧ w'.ownsRow base 25 2 v' (L.length + 1) ((pushL L t).flatMap Tm.cs) ∧ Below base w w' := by
  obtain ⟨R, hR⟩ : ∃ R, R = pushL L t := ⟨_, rfl⟩
  have HR := K.H.mk hR
  rw [← hR]
  have hgl := hH.lt
  obtain ⟨A0, c0, rfl, hnc, hcm, hR0⟩ := Sl.Rds.of_own2 hown
  have hqg := Sl.own_ne hown hH (by decide)
  obtain ⟨r0, hr0⟩ : ∃ r0, r0 = (Value.slice A0 L.length c0).ownBlock := ⟨_, rfl⟩
  have hrg : r0 ≠ some gH := hr0 ▸ hqg
  have Hr0 := K.H.mk hr0
  have hrb : ∀ k, r0 = some k → base ≤ k := fun k hk => Sl.own_base hown k (hr0 ▸ hk)
  have hl9 : L.flatMap Tm.cs ++ [.int .i64 t.t, .int .i64 t.id] = (L ++ [t]).flatMap Tm.cs := by simp [List.flatMap_append, Tm.cs]
  have Hl9 := K.H.mk hl9
  have Hrb := K.H.mk hrb
  have hqg2 := hqg
  clear hR hr0 hl9 hqg hnc hcm hR0 hrb
  obtain ⟨hc3, hf3, hl3⟩ := K.At.facts hH
  go_enter Try.func31, Try.ntmps31
  go_wp2
  refine K.wp_gen (fun W => K.At W w.heap.size 25 #[.int .i64 t.t, .int .i64 t.id] ∧ K.At W gH 57 #[.slice A0 L.length c0] ∧ W.ownsRow base 25 2 (.slice A0 L.length c0) L.length (L.flatMap Tm.cs) ∧ Below base w W) ⟨K.At.new _ _ _, hH.alloc _, hown.alloc _, (K.b_alloc (Below.refl _ _) _ : Below w.heap.size w _).mono hbase⟩ ?_
  rintro W1 ⟨hT, hH1, hown1, hb1⟩
  have Hb1 := K.H.mk hb1
  have hrt : r0 ≠ some w.heap.size := fun e => by have := (hown.lt w.heap.size (by rw [← Hr0.out]; exact e)).2; omega
  have htg : w.heap.size ≠ gH := by omega
  have hgt : gH ≠ w.heap.size := by omega
  have hgl1 := hH1.lt
  have htl1 := hT.lt
  have hz1 := hb1.size
  obtain ⟨hc5, hf5, hl5⟩ := K.At.facts hT
  obtain ⟨hc6, hf6, hl6⟩ := K.At.facts hH1
  clear hH hown hb1 hc3 hf3 hl3 hgl
  refine K.wp_region_row_tail r0 8 (by kernel_rfl) (by kernel_rfl) (by kernel_rfl) ?_
  simp only [List.take_succ_cons, List.take_zero, List.drop_succ_cons, List.drop_zero]
  intro W9 hB9
  have hR9 := K.InR.of_bel r0 hB9
  have hZ9 := K.inr_size hR9
  repeat (any_goals (first | refine K.wpMix_skip2 (by rfl) (by rfl) ?_ | (refine K.wpMix_skip (by rfl) ?_; go_simp) | (refine K.wpMix_want (by rfl) (by rfl) (fun Kq hK => ?_); go_simp; refine hK _ _ ?_; clear hK Kq) | (refine K.wpMix_ser (by rfl) (by rfl) (fun Kq hK => ?_); first | ((refine K.ser_app1 (news := [.int .i64 t.t, .int .i64 t.id]) _ _ 57 25 (.agg #[.int .i64 0, .int .i64 0]) rfl Try.underlying57 (by kernel_rfl : (Try.prog.info? 25).map (fun i => (i.zero, i.size, i.bytes)) = some (some (.agg #[.int .i64 0, .int .i64 0]), 2, 16)) rfl (by decide) (by decide) rfl ((Sl.own_over hown1 hB9).alloc _) rfl rfl (Sl.new_cells _ _ _ _ (by first | rfl | simp)) (by simp [Value.oneCell']) (by omega) (by simp; omega) ?_; intro v8 W8 hown8 hgr8; have hgr8 : World.grownBy _ W8 r0 := (by rw [Hr0.out]; exact hgr8); have hI8 : K.InR W1 r0 W8 := (by repeat (first | (with_reducible exact hR9) | (with_reducible refine K.inr_bel ?_ (by assumption)) | (with_reducible refine K.inr_alloc ?_ _) | (with_reducible refine K.inr_row ?_ (by assumption)) | (with_reducible refine K.inr_new ?_ (by first | omega | (simp <;> omega)) _))); rw [Hl9.out] at hown8); refine ⟨(by repeat (first | (with_reducible exact hR9) | (with_reducible refine K.inr_bel ?_ (by assumption)) | (with_reducible refine K.inr_alloc ?_ _) | (with_reducible refine K.inr_row ?_ (by assumption)) | (with_reducible refine K.inr_new ?_ (by first | omega | (simp <;> omega)) _))), hK _ _ ?_⟩; clear hK Kq) | (go_simp; first | (refine ⟨(by repeat (first | (with_reducible exact hR9) | (with_reducible refine K.inr_bel ?_ (by assumption)) | (with_reducible refine K.inr_alloc ?_ _) | (with_reducible refine K.inr_row ?_ (by assumption)) | (with_reducible refine K.inr_new ?_ (by first | omega | (simp <;> omega)) _))), hK _ _ ?_⟩; clear hK Kq) | (fail; refine ⟨_, rfl, (by repeat (first | (with_reducible exact hR9) | (with_reducible refine K.inr_bel ?_ (by assumption)) | (with_reducible refine K.inr_alloc ?_ _) | (with_reducible refine K.inr_row ?_ (by assumption)) | (with_reducible refine K.inr_new ?_ (by first | omega | (simp <;> omega)) _))), hK _ _ ?_⟩; clear hK Kq)))))
  all_goals refine K.wpMix_nil ?_
  have hH8 := K.at_inr hH1 hI8 hrg
  have hT8 := K.at_inr hT hI8 hrt
  have hb8 : Below base w W8 := Hb1.out.grown hI8.out (by omega) (fun k hk => Hrb.out k hk)
  have hng8 := Sl.own_ne hown8 hH8 (by decide)
  have hz8 := hb8.size
  obtain ⟨g8, cap8, rfl, hgb8, hgl8⟩ := form_t hown8 (by omega)
  obtain ⟨M, hM⟩ : ∃ M, M = L.length + 1 := ⟨_, rfl⟩
  rw [← hM] at hown8 ⊢
  have hM0 : L.length < M := by omega
  have hM1 : M ≤ 1025 := by omega
  have hwM : IntKind.i64.wrap ((M : Int) - 1) = (L.length : Int) := by rw [K.i64_in (by omega) (by omega)]; omega
  have hgg : g8 ≠ gH := fun e => hng8 (by rw [e]; rfl)
  have hgg2 : gH ≠ g8 := Ne.symm hgg
  have hH9 := hH8.set 0 (.slice (some ⟨g8, 0, none⟩) M cap8)
  have hown9 := Sl.own_set (p := ⟨gH, 0, none⟩) hown8 hng8 (.slice (some ⟨g8, 0, none⟩) M cap8)
  have hgl8H := hH8.lt
  have Hb9 := K.H.mk (hb8.grown (K.o_set (K.o_refl W8 gH) 0 (.slice (some ⟨g8, 0, none⟩) M cap8)) (by omega) (fun j e => by cases e; exact hbg))
  have HR2 := K.H.mk (show R = up (L.length + 1) (L ++ [t]) L.length from HR.out)
  obtain ⟨hc4, hf4, hl4⟩ := K.At.facts hH8
  have hlt : (L ++ [t]).length = M := by simp [hM]
  have HMM := K.H.mk hM
  clear hM
  clear hT hH1 hown1 Hb1 hT8 hH8 hown8 hgr8 hI8 hb8 hR9 hB9 hZ9 hc5 hf5 hl5 hc6 hf6 hl6 hqg2 hrg hrt HR Hl9 Hr0 Hrb
  clear hgr8
  generalize L ++ [t] = C0 at *
  go_wp2
  clear hc4 hf4 hl4 hng8 hgl8 hgl8H hgl1 htl1 hz1 hz8
  go_loopw [4] (fun v4 wr => ∃ (f i : Nat) (C : List Tm), v4 = .int .i64 i ∧ i < f ∧ i ≤ L.length ∧ C.length = M ∧ K.H (R = up f C i) ∧ K.At wr gH 57 #[.slice (some ⟨g8, 0, none⟩) M cap8] ∧ wr.ownsRow base 25 2 (.slice (some ⟨g8, 0, none⟩) M cap8) M (C.flatMap Tm.cs) ∧ K.H (Below base w wr)) (fun v4 _ => (intOf v4).toNat)
  case atStart => exact ⟨L.length + 1, L.length, C0, by go_num, by omega, by omega, hlt, HR2, hH9.cast (by rfl), hown9, Hb9⟩
  case round =>
    clear hH9 hown9 Hb9 HR2
    obtain ⟨f, i, C, rfl, hif, hin, hCl, HR, hH, hown, Hb⟩ := hrel
    obtain ⟨hc5, hf5, hl5⟩ := K.At.facts hH
    have hgl := hH.lt
    have hsz := Hb.out.size
    have hsz' : base ≤ wr.heap.size := by omega
    obtain ⟨f, rfl⟩ : ∃ f', f = f' + 1 := ⟨f - 1, by omega⟩
    by_cases h0 : i = 0
    · subst h0
      have hRC : R = C := by rw [HR.out]; unfold up; rw [if_neg (by simp [badAt])]
      clear HR
      subst hRC
      go_wp2
      go_end0
      exact ⟨rfl, _, hH, HMM.out ▸ hown, Hb.out⟩
    · have hpi : (i - 1) / 2 < i := by omega
      obtain ⟨x, hx⟩ : ∃ x, C[i]? = some x := ⟨_, List.getElem?_eq_getElem (by omega)⟩
      obtain ⟨y, hy⟩ : ∃ y, C[(i - 1) / 2]? = some y := ⟨_, List.getElem?_eq_getElem (by omega)⟩
      have HBD := K.H.mk (show badAt C i = x.lt y by unfold badAt; rw [List.getD_eq_getElem?_getD, List.getD_eq_getElem?_getD, hx, hy, decide_eq_true (by omega : 0 < i), Option.getD_some, Option.getD_some, Bool.true_and])
      have HSW := K.H.mk (show swp C i ((i - 1) / 2) = (C.set i y).set ((i - 1) / 2) x by unfold swp; rw [List.getD_eq_getElem?_getD, List.getD_eq_getElem?_getD, hx, hy, Option.getD_some, Option.getD_some])
      have hRd : Sl.Rds wr 2 (some ⟨g8, 0, none⟩) M (C.flatMap Tm.cs) := by
        obtain ⟨_, _, he9, hR9⟩ := Sl.Rds.of_own hown; cases he9; exact hR9
      have GH := K.H.mk (ahead_c C i ((i - 1) / 2) x y (some ⟨g8, 0, none⟩) M cap8 wr hRd hx hy)
      have GS := K.H.mk (fun (W : World) (hb : K.Bel wr W) => swap_c C i ((i - 1) / 2) x y g8 M cap8 base W (Sl.own_over hown hb) hx hy (by omega) (by omega))
      have d0 : decide ((0 : Int) < (i : Int)) = true := decide_eq_true (by omega)
      have d0n : decide (0 < i) = true := decide_eq_true (by omega)
      have hw1 : IntKind.i64.wrap ((i : Int) - 1) = ((i - 1 : Nat) : Int) := by rw [K.i64_in (by omega) (by omega)]; omega
      have hq1 : ((i - 1 : Nat) : Int).tdiv 2 = (((i - 1) / 2 : Nat) : Int) := by rw [Int.natCast_ediv]; exact Int.tdiv_eq_ediv_of_nonneg (by omega)
      have hm1 : (i - 1) / 2 ≤ 1024 := by omega
      have Hown := K.H.mk hown
      have hH0 := hH
      have HI0 := K.H.mk h0
      clear hx hy hRd hown h0
      generalize hme : (i - 1) / 2 = m at *
      have HM := K.H.mk hme
      clear hme
      have hw2 : wrap64 ((m : Nat) : Int) = ((m : Nat) : Int) := by unfold wrap64; omega
      have HBN := K.H.mk (show L.length < M ∧ M ≤ 1025 ∧ i ≤ L.length ∧ C.length = M ∧ i < f + 1 ∧ m ≤ 1024 ∧ m < i from ⟨hM0, hM1, hin, hCl, hif, hm1, hpi⟩)
      clear hM0 hM1 hin hCl hif hm1 hpi hwM
      obtain ⟨q, hqe⟩ : ∃ q, q = x.lt y := ⟨_, rfl⟩
      rw [← hqe] at GH HBD
      clear hqe
      cases q
      · have hRC : R = C := by rw [HR.out]; unfold up; rw [if_neg (by rw [HBD.out]; simp)]
        clear HR
        subst hRC
        go_wp2_with (first | (go_at_call 35; (with_reducible refine (GH.out).mono ?_); rintro e W4 ⟨rfl, hb4⟩; obtain ⟨hB4, hC4, hF4, hZ4⟩ := K.bel_facts hb4; clear hb4))
        go_end0
        exact ⟨rfl, _, K.At.over hB4 hH0, HMM.out ▸ Sl.own_over Hown.out hB4, Hb.out.trans (hB4.out.mono hsz')⟩
      · have HR3 := K.H.mk (show R = up f (swp C i m) m by rw [HR.out]; conv => lhs; unfold up; rw [if_pos HBD.out, HM.out])
        clear HR
        go_wp2_with (first
          | (go_at_call 35; (with_reducible refine (GH.out).mono ?_); rintro e W4 ⟨rfl, hb4⟩; obtain ⟨hB4, hC4, hF4, hZ4⟩ := K.bel_facts hb4; clear hb4; have hH4 := K.At.over hB4 hH0; obtain ⟨hc7, hf7, hl7⟩ := K.At.facts hH4)
          | (go_at_call 43; (with_reducible refine (GS.out _ ?r1).mono ?_); (case r1 => exact hB4); rintro e W5 ⟨rfl, hown5, hgr5⟩; have hO5 := K.Only.mk hgr5))
        have hH5 := K.At.past hO5 hgg2 hH4
        have hb5 := (Hb.out.trans (hB4.out.mono hsz')).grown hgr5 (by have := hB4.out.size; omega) (fun j e => by cases e; exact hgb8)
        have Hb5 := K.H.mk hb5
        rw [← HSW.out] at hown5
        go_roundw
        case rel => exact ⟨f, m, swp C i m, by rw [hw2], by have := HBN.out; clear hw1 hw2 hq1; omega, by have := HBN.out; clear hw1 hw2 hq1; omega, by rw [swp_len]; exact HBN.out.2.2.2.1, HR3, hH5, hown5, Hb5⟩
        case measure =>
          rw [hw2]
          exact (by have h9 := HBN.out.2.2.2.2.2.2; clear hw1 hq1 hw2 d0 d0n HBN; simp only [intOf, Int.toNat_natCast]; exact h9)
end Go.Proofs.Ytmoaekjkihbicaa.Tm
