/- Timer: sink. -/
import Derived.Test.YtmoaekjkihbicaaTm6
set_option linter.unusedVariables false
namespace Go.Proofs.Ytmoaekjkihbicaa.Tm
open Go.RowKit Go.Proofs.Ytmoaekjkihbicaa
set_option linter.unusedSimpArgs false
set_option maxRecDepth 100000 in
set_option maxHeartbeats 8000000 in
theorem sink_c (L : List Tm) (f0 i0 : Nat) (gH g n cap base : Nat) (w : World) (hH : K.At w gH 57 #[.slice (some ⟨g, 0, none⟩) n cap]) (hown : w.ownsRow base 25 2 (.slice (some ⟨g, 0, none⟩) n cap) n (L.flatMap Tm.cs)) (hbase : base ≤ w.heap.size) (hn : n ≤ 1024) (hbg : base ≤ g) (hgg : gH ≠ g) (hi : i0 ≤ n) (hf0 : n < f0 + i0) :
    Calls Try.prog 44 #[.pointer (some ⟨gH, 0, none⟩), .int .i64 i0] w fun e w' => e = .returned (.tuple #[]) ∧ K.At w' gH 57 #[.slice (some ⟨g, 0, none⟩) n cap] ∧ w'.ownsRow base 25 2 (.slice (some ⟨g, 0, none⟩) n cap) n ((down f0 L i0).flatMap Tm.cs) ∧ w.grownBy w' (some g) := by
  have hLl : L.length = n := by have := hown.1; rw [Sl.flat_len Tm.cs_len] at this; omega
  obtain ⟨R, hR⟩ : ∃ R, R = down f0 L i0 := ⟨_, rfl⟩
  have HR0 := K.H.mk hR
  rw [← hR]
  have HF0 := K.H.mk hf0
  have HN := K.H.mk hn
  have HI := K.H.mk hi
  clear hR hf0 hn hi
  go_enter Try.func44, Try.ntmps44
  go_wp2
  go_loopw [1] (fun v1 wr => ∃ (f i : Nat) (C : List Tm), v1 = .int .i64 i ∧ i ≤ n ∧ C.length = n ∧ K.H (n < f + i) ∧ K.H (R = down f C i) ∧ K.At wr gH 57 #[.slice (some ⟨g, 0, none⟩) n cap] ∧ wr.ownsRow base 25 2 (.slice (some ⟨g, 0, none⟩) n cap) n (C.flatMap Tm.cs) ∧ K.H (w.grownBy wr (some g))) (fun v1 _ => n - (intOf v1).toNat)
  case atStart => exact ⟨f0, i0, L, rfl, HI.out, hLl, HF0, HR0, hH, hown, ⟨K.o_refl _ _⟩⟩
  case round =>
    clear hH hown HR0 hLl
    obtain ⟨f, i, C, rfl, hin, hCl, HF, HR, hH, hown, Hb⟩ := hrel
    have hsz := Hb.out.size
    have hsz2 : base ≤ wr.heap.size := by omega
    have hgl := hH.lt
    obtain ⟨hc3, hf3, hl3⟩ := K.At.facts hH
    have hRd : Sl.Rds wr 2 (some ⟨g, 0, none⟩) n (C.flatMap Tm.cs) := by
      obtain ⟨_, _, he9, hR9⟩ := Sl.Rds.of_own hown; cases he9; exact hR9
    have HRd := K.H.mk hRd
    have Hown := K.H.mk hown
    have hH0 := hH
    clear hRd hown hH
    obtain ⟨f, rfl⟩ : ∃ f', f = f' + 1 := ⟨f - 1, by have := HF.out; omega⟩
    have hn24 := HN.out
    obtain ⟨m, hm⟩ : ∃ m, m = 2 * i + 1 := ⟨_, rfl⟩
    obtain ⟨m2, hm2⟩ : ∃ m2, m2 = 2 * i + 2 := ⟨_, rfl⟩
    have hw0 : IntKind.i64.wrap (2 * (i : Int)) = 2 * (i : Int) := K.i64_in (by omega) (by omega)
    have hw1 : IntKind.i64.wrap (2 * (i : Int) + 1) = (m : Int) := by rw [K.i64_in (by omega) (by omega)]; omega
    have hw2 : IntKind.i64.wrap ((m : Int) + 1) = (m2 : Int) := by rw [K.i64_in (by omega) (by omega)]; omega
    by_cases hA : n ≤ m
    · have hRC : R = C := by rw [HR.out]; unfold down; rw [if_neg (fun h => by omega)]
      have d1 : decide ((n : Int) ≤ (m : Int)) = true := decide_eq_true (by omega)
      have d1n : decide (n ≤ m) = true := decide_eq_true hA
      clear HR
      subst hRC
      clear hm hm2 hin hCl hn24 hA
      go_wp2
      refine bodyPost_ret (results_none rfl _ _ _) rfl ?_
      exact ⟨rfl, hH0, Hown.out, Hb.out⟩
    · have d1 : decide ((n : Int) ≤ (m : Int)) = false := decide_eq_false (by omega)
      have d1n : decide (n ≤ m) = false := decide_eq_false hA
      obtain ⟨x, hx⟩ : ∃ x, C[i]? = some x := ⟨_, List.getElem?_eq_getElem (by omega)⟩
      obtain ⟨y, hy⟩ : ∃ y, C[m]? = some y := ⟨_, List.getElem?_eq_getElem (by omega)⟩
      have hf2 := HF.out
      have HBN := K.H.mk (show i ≤ n ∧ C.length = n ∧ m < n ∧ n ≤ 1024 ∧ m = 2 * i + 1 ∧ m2 = 2 * i + 2 ∧ n < f + 1 + i from ⟨hin, hCl, by omega, hn24, hm, hm2, hf2⟩)
      by_cases h2 : m2 < n
      · have d2 : decide ((m2 : Int) < (n : Int)) = true := decide_eq_true (by omega)
        have d2n : decide (m2 < n) = true := decide_eq_true h2
        have h2l : m2 < C.length := by omega
        obtain ⟨y2, hy2⟩ : ∃ y2, C[m2]? = some y2 := ⟨_, List.getElem?_eq_getElem h2l⟩
        have G2 := K.H.mk (ahead_c C m2 m y2 y (some ⟨g, 0, none⟩) n cap wr HRd.out hy2 hy)
        have HKD0 := K.H.mk (show kid C i = if y2.lt y = true then m2 else m by
          unfold kid
          rw [show gt C (2 * i + 2) = y2 by unfold gt; rw [← hm2, List.getD_eq_getElem?_getD, hy2]; rfl, show gt C (2 * i + 1) = y by unfold gt; rw [← hm, List.getD_eq_getElem?_getD, hy]; rfl, ← hm2, ← hm]
          by_cases h : y2.lt y = true
          · rw [if_pos ⟨h2l, h⟩, if_pos h]
          · rw [if_neg (fun h9 => h h9.2), if_neg h])
        have HM2 := K.H.mk h2
        obtain ⟨q2, hq2⟩ : ∃ q, q = y2.lt y := ⟨_, rfl⟩
        rw [← hq2] at G2 HKD0
        clear hq2 hm hm2 hin hCl hn24 hA hf2 h2 h2l
        cases q2
        · have HKD := K.H.mk (show kid C i = m from HKD0.out)
          clear HKD0 hy2
          have hz := hy
          generalize y = z at *
          clear hy
          have G1 := K.H.mk (fun (W : World) (hb : K.Bel wr W) => ahead_c C m i z x (some ⟨g, 0, none⟩) n cap W (HRd.out.bel hb) hz hx)
          have G3 := K.H.mk (fun (W : World) (hb : K.Bel wr W) => swap_c C i m x z g n cap base W (Sl.own_over Hown.out hb) hx hz (by have := HBN.out; omega) (by have := HBN.out; omega))
          have HSW := K.H.mk (show swp C i m = (C.set i z).set m x by unfold swp; rw [List.getD_eq_getElem?_getD, List.getD_eq_getElem?_getD, hx, hz, Option.getD_some, Option.getD_some])
          have HCD := K.H.mk (show (2 * i + 1 < C.length ∧ (gt C (kid C i)).lt (gt C i) = true) ↔ z.lt x = true by
            have h7 := HBN.out
            rw [HKD.out]; unfold gt; rw [List.getD_eq_getElem?_getD, List.getD_eq_getElem?_getD, hx, hz]
            simp only [Option.getD_some]
            exact ⟨fun h => h.2, fun h => ⟨by omega, h⟩⟩)
          obtain ⟨q, hqe⟩ : ∃ q, q = z.lt x := ⟨_, rfl⟩
          rw [← hqe] at G1 HCD
          clear hqe hx hz
          cases q
          · have hRC : R = C := by rw [HR.out]; unfold down; rw [if_neg (fun h => by have := HCD.out.1 h; cases this)]
            clear HR
            subst hRC
            go_wp2_with (first | (go_at_call 35; first | (go_at_call 35; (with_reducible refine (G2.out).mono ?_); rintro e W4 ⟨rfl, hb4⟩; obtain ⟨hB4, hC4, hF4, hZ4⟩ := K.bel_facts hb4; clear hb4; have kH4 : K.At W4 gH 57 #[.slice (some ⟨g, 0, none⟩) n cap] := (by refine K.At.cast (by repeat (first | (with_reducible exact hH0) | (with_reducible refine K.At.new' _ _ _ _ (by first | rfl | (simp; done) | omega)) | (with_reducible apply K.At.over hB4) | (with_reducible apply K.At.set) | (with_reducible apply K.At.alloc) | (with_reducible apply K.At.drewN) | (with_reducible apply K.At.drew) | (with_reducible apply K.At.far) | omega | (simp <;> omega))) ?_; rfl); obtain ⟨hc_kH4, hf_kH4, hl_kH4⟩ := K.At.facts kH4) | ((with_reducible refine (G1.out _ ?r1).mono ?_); (case r1 => first | exact hB4 | exact ⟨Below.refl _ _⟩); rintro e W5 ⟨rfl, hb5⟩; have hB5 := K.Bel.mk hb5; clear hb5)))
            refine bodyPost_ret (results_none rfl _ _ _) rfl ?_
            exact ⟨rfl, (by refine K.At.cast (by repeat (first | (with_reducible exact kH4) | (with_reducible refine K.At.new' _ _ _ _ (by first | rfl | (simp; done) | omega)) | (with_reducible apply K.At.over hB5) | (with_reducible apply K.At.set) | (with_reducible apply K.At.alloc) | (with_reducible apply K.At.drewN) | (with_reducible apply K.At.drew) | (with_reducible apply K.At.far) | omega | (simp <;> omega))) ?_; rfl), Sl.own_over (Sl.own_over Hown.out hB4) hB5, K.o_bel (K.o_bel Hb.out hB4) hB5⟩
          · have HR3 := K.H.mk (show R = down f (swp C i m) m by rw [HR.out]; conv => lhs; unfold down; rw [if_pos (HCD.out.2 rfl), HKD.out])
            clear HR
            go_wp2_with (first
              | (go_at_call 35; first | (go_at_call 35; (with_reducible refine (G2.out).mono ?_); rintro e W4 ⟨rfl, hb4⟩; obtain ⟨hB4, hC4, hF4, hZ4⟩ := K.bel_facts hb4; clear hb4; have kH4 : K.At W4 gH 57 #[.slice (some ⟨g, 0, none⟩) n cap] := (by refine K.At.cast (by repeat (first | (with_reducible exact hH0) | (with_reducible refine K.At.new' _ _ _ _ (by first | rfl | (simp; done) | omega)) | (with_reducible apply K.At.over hB4) | (with_reducible apply K.At.set) | (with_reducible apply K.At.alloc) | (with_reducible apply K.At.drewN) | (with_reducible apply K.At.drew) | (with_reducible apply K.At.far) | omega | (simp <;> omega))) ?_; rfl); obtain ⟨hc_kH4, hf_kH4, hl_kH4⟩ := K.At.facts kH4) | ((with_reducible refine (G1.out _ ?r1).mono ?_); (case r1 => first | exact hB4 | exact ⟨Below.refl _ _⟩); rintro e W5 ⟨rfl, hb5⟩; have hB5 := K.Bel.mk hb5; clear hb5; have hH5 : K.At W5 gH 57 #[.slice (some ⟨g, 0, none⟩) n cap] := (by refine K.At.cast (by repeat (first | (with_reducible exact kH4) | (with_reducible refine K.At.new' _ _ _ _ (by first | rfl | (simp; done) | omega)) | (with_reducible apply K.At.over hB5) | (with_reducible apply K.At.set) | (with_reducible apply K.At.alloc) | (with_reducible apply K.At.drewN) | (with_reducible apply K.At.drew) | (with_reducible apply K.At.far) | omega | (simp <;> omega))) ?_; rfl); obtain ⟨hc8, hf8, hl8⟩ := K.At.facts hH5; have hB6 : K.Bel wr W5 := ⟨hB4.out.trans (hB5.out.mono hB4.out.size)⟩))
              | (go_at_call 43; (with_reducible refine (G3.out _ ?r1).mono ?_); (case r1 => exact hB6); rintro e W7 ⟨rfl, hown7, hgr7⟩; have hO7 := K.Only.mk hgr7))
            have hH7 := K.At.past hO7 hgg hH5
            have Hb7 := K.H.mk (K.o_only (K.o_bel Hb.out hB6) hO7)
            rw [← HSW.out] at hown7
            go_roundw
            case rel =>
              have h9 := HBN.out
              exact ⟨f, m, swp C i m, rfl, by omega, by rw [swp_len]; omega, ⟨by omega⟩, HR3, hH7, hown7, Hb7⟩
            case measure =>
              have h9 := HBN.out
              simp only [intOf, Int.toNat_natCast]; omega
        · have HKD := K.H.mk (show kid C i = m2 from HKD0.out)
          clear HKD0 hy
          have hz := hy2
          generalize y2 = z at *
          clear hy2
          have HBN9 := HBN
          clear HBN
          have HBN := K.H.mk (show i ≤ n ∧ C.length = n ∧ m < n ∧ n ≤ 1024 ∧ m = 2 * i + 1 ∧ m2 = 2 * i + 2 ∧ n < f + 1 + i ∧ m2 < n from ⟨HBN9.out.1, HBN9.out.2.1, HBN9.out.2.2.1, HBN9.out.2.2.2.1, HBN9.out.2.2.2.2.1, HBN9.out.2.2.2.2.2.1, HBN9.out.2.2.2.2.2.2, HM2.out⟩)
          have G1 := K.H.mk (fun (W : World) (hb : K.Bel wr W) => ahead_c C m2 i z x (some ⟨g, 0, none⟩) n cap W (HRd.out.bel hb) hz hx)
          have G3 := K.H.mk (fun (W : World) (hb : K.Bel wr W) => swap_c C i m2 x z g n cap base W (Sl.own_over Hown.out hb) hx hz (by have := HBN.out; omega) (by have := HBN.out; omega))
          have HSW := K.H.mk (show swp C i m2 = (C.set i z).set m2 x by unfold swp; rw [List.getD_eq_getElem?_getD, List.getD_eq_getElem?_getD, hx, hz, Option.getD_some, Option.getD_some])
          have HCD := K.H.mk (show (2 * i + 1 < C.length ∧ (gt C (kid C i)).lt (gt C i) = true) ↔ z.lt x = true by
            have h7 := HBN.out
            rw [HKD.out]; unfold gt; rw [List.getD_eq_getElem?_getD, List.getD_eq_getElem?_getD, hx, hz]
            simp only [Option.getD_some]
            exact ⟨fun h => h.2, fun h => ⟨by omega, h⟩⟩)
          obtain ⟨q, hqe⟩ : ∃ q, q = z.lt x := ⟨_, rfl⟩
          rw [← hqe] at G1 HCD
          clear hqe hx hz
          cases q
          · have hRC : R = C := by rw [HR.out]; unfold down; rw [if_neg (fun h => by have := HCD.out.1 h; cases this)]
            clear HR
            subst hRC
            go_wp2_with (first | (go_at_call 35; first | (go_at_call 35; (with_reducible refine (G2.out).mono ?_); rintro e W4 ⟨rfl, hb4⟩; obtain ⟨hB4, hC4, hF4, hZ4⟩ := K.bel_facts hb4; clear hb4; have kH4 : K.At W4 gH 57 #[.slice (some ⟨g, 0, none⟩) n cap] := (by refine K.At.cast (by repeat (first | (with_reducible exact hH0) | (with_reducible refine K.At.new' _ _ _ _ (by first | rfl | (simp; done) | omega)) | (with_reducible apply K.At.over hB4) | (with_reducible apply K.At.set) | (with_reducible apply K.At.alloc) | (with_reducible apply K.At.drewN) | (with_reducible apply K.At.drew) | (with_reducible apply K.At.far) | omega | (simp <;> omega))) ?_; rfl); obtain ⟨hc_kH4, hf_kH4, hl_kH4⟩ := K.At.facts kH4) | ((with_reducible refine (G1.out _ ?r1).mono ?_); (case r1 => first | exact hB4 | exact ⟨Below.refl _ _⟩); rintro e W5 ⟨rfl, hb5⟩; have hB5 := K.Bel.mk hb5; clear hb5)))
            refine bodyPost_ret (results_none rfl _ _ _) rfl ?_
            exact ⟨rfl, (by refine K.At.cast (by repeat (first | (with_reducible exact kH4) | (with_reducible refine K.At.new' _ _ _ _ (by first | rfl | (simp; done) | omega)) | (with_reducible apply K.At.over hB5) | (with_reducible apply K.At.set) | (with_reducible apply K.At.alloc) | (with_reducible apply K.At.drewN) | (with_reducible apply K.At.drew) | (with_reducible apply K.At.far) | omega | (simp <;> omega))) ?_; rfl), Sl.own_over (Sl.own_over Hown.out hB4) hB5, K.o_bel (K.o_bel Hb.out hB4) hB5⟩
          · have HR3 := K.H.mk (show R = down f (swp C i m2) m2 by rw [HR.out]; conv => lhs; unfold down; rw [if_pos (HCD.out.2 rfl), HKD.out])
            clear HR
            go_wp2_with (first
              | (go_at_call 35; first | (go_at_call 35; (with_reducible refine (G2.out).mono ?_); rintro e W4 ⟨rfl, hb4⟩; obtain ⟨hB4, hC4, hF4, hZ4⟩ := K.bel_facts hb4; clear hb4; have kH4 : K.At W4 gH 57 #[.slice (some ⟨g, 0, none⟩) n cap] := (by refine K.At.cast (by repeat (first | (with_reducible exact hH0) | (with_reducible refine K.At.new' _ _ _ _ (by first | rfl | (simp; done) | omega)) | (with_reducible apply K.At.over hB4) | (with_reducible apply K.At.set) | (with_reducible apply K.At.alloc) | (with_reducible apply K.At.drewN) | (with_reducible apply K.At.drew) | (with_reducible apply K.At.far) | omega | (simp <;> omega))) ?_; rfl); obtain ⟨hc_kH4, hf_kH4, hl_kH4⟩ := K.At.facts kH4) | ((with_reducible refine (G1.out _ ?r1).mono ?_); (case r1 => first | exact hB4 | exact ⟨Below.refl _ _⟩); rintro e W5 ⟨rfl, hb5⟩; have hB5 := K.Bel.mk hb5; clear hb5; have hH5 : K.At W5 gH 57 #[.slice (some ⟨g, 0, none⟩) n cap] := (by refine K.At.cast (by repeat (first | (with_reducible exact kH4) | (with_reducible refine K.At.new' _ _ _ _ (by first | rfl | (simp; done) | omega)) | (with_reducible apply K.At.over hB5) | (with_reducible apply K.At.set) | (with_reducible apply K.At.alloc) | (with_reducible apply K.At.drewN) | (with_reducible apply K.At.drew) | (with_reducible apply K.At.far) | omega | (simp <;> omega))) ?_; rfl); obtain ⟨hc8, hf8, hl8⟩ := K.At.facts hH5; have hB6 : K.Bel wr W5 := ⟨hB4.out.trans (hB5.out.mono hB4.out.size)⟩))
              | (go_at_call 43; (with_reducible refine (G3.out _ ?r1).mono ?_); (case r1 => exact hB6); rintro e W7 ⟨rfl, hown7, hgr7⟩; have hO7 := K.Only.mk hgr7))
            have hH7 := K.At.past hO7 hgg hH5
            have Hb7 := K.H.mk (K.o_only (K.o_bel Hb.out hB6) hO7)
            rw [← HSW.out] at hown7
            go_roundw
            case rel =>
              have h9 := HBN.out
              exact ⟨f, m2, swp C i m2, rfl, by omega, by rw [swp_len]; omega, ⟨by omega⟩, HR3, hH7, hown7, Hb7⟩
            case measure =>
              have h9 := HBN.out
              simp only [intOf, Int.toNat_natCast]; omega
      · have d2 : decide ((m2 : Int) < (n : Int)) = false := decide_eq_false (by omega)
        have d2n : decide (m2 < n) = false := decide_eq_false h2
        have HKD := K.H.mk (show kid C i = m by unfold kid; rw [if_neg (fun h => h2 (by omega))]; exact hm.symm)
        clear hm hm2 hin hCl hn24 hA hf2 h2
        have hz := hy
        generalize y = z at *
        clear hy
        have G1 := K.H.mk (fun (W : World) (hb : K.Bel wr W) => ahead_c C m i z x (some ⟨g, 0, none⟩) n cap W (HRd.out.bel hb) hz hx)
        have G3 := K.H.mk (fun (W : World) (hb : K.Bel wr W) => swap_c C i m x z g n cap base W (Sl.own_over Hown.out hb) hx hz (by have := HBN.out; omega) (by have := HBN.out; omega))
        have HSW := K.H.mk (show swp C i m = (C.set i z).set m x by unfold swp; rw [List.getD_eq_getElem?_getD, List.getD_eq_getElem?_getD, hx, hz, Option.getD_some, Option.getD_some])
        have HCD := K.H.mk (show (2 * i + 1 < C.length ∧ (gt C (kid C i)).lt (gt C i) = true) ↔ z.lt x = true by
          have h7 := HBN.out
          rw [HKD.out]; unfold gt; rw [List.getD_eq_getElem?_getD, List.getD_eq_getElem?_getD, hx, hz]
          simp only [Option.getD_some]
          exact ⟨fun h => h.2, fun h => ⟨by omega, h⟩⟩)
        obtain ⟨q, hqe⟩ : ∃ q, q = z.lt x := ⟨_, rfl⟩
        rw [← hqe] at G1 HCD
        clear hqe hx hz
        cases q
        · have hRC : R = C := by rw [HR.out]; unfold down; rw [if_neg (fun h => by have := HCD.out.1 h; cases this)]
          clear HR
          subst hRC
          go_wp2_with (first | (go_at_call 35; first | ((with_reducible refine (G1.out _ ?r1).mono ?_); (case r1 => first | exact hB4 | exact ⟨Below.refl _ _⟩); rintro e W5 ⟨rfl, hb5⟩; have hB5 := K.Bel.mk hb5; clear hb5)))
          refine bodyPost_ret (results_none rfl _ _ _) rfl ?_
          exact ⟨rfl, (by refine K.At.cast (by repeat (first | (with_reducible exact hH0) | (with_reducible refine K.At.new' _ _ _ _ (by first | rfl | (simp; done) | omega)) | (with_reducible apply K.At.over hB5) | (with_reducible apply K.At.set) | (with_reducible apply K.At.alloc) | (with_reducible apply K.At.drewN) | (with_reducible apply K.At.drew) | (with_reducible apply K.At.far) | omega | (simp <;> omega))) ?_; rfl), Sl.own_over (Hown.out) hB5, K.o_bel Hb.out hB5⟩
        · have HR3 := K.H.mk (show R = down f (swp C i m) m by rw [HR.out]; conv => lhs; unfold down; rw [if_pos (HCD.out.2 rfl), HKD.out])
          clear HR
          go_wp2_with (first
            | (go_at_call 35; first | ((with_reducible refine (G1.out _ ?r1).mono ?_); (case r1 => first | exact hB4 | exact ⟨Below.refl _ _⟩); rintro e W5 ⟨rfl, hb5⟩; have hB5 := K.Bel.mk hb5; clear hb5; have hH5 : K.At W5 gH 57 #[.slice (some ⟨g, 0, none⟩) n cap] := (by refine K.At.cast (by repeat (first | (with_reducible exact hH0) | (with_reducible refine K.At.new' _ _ _ _ (by first | rfl | (simp; done) | omega)) | (with_reducible apply K.At.over hB5) | (with_reducible apply K.At.set) | (with_reducible apply K.At.alloc) | (with_reducible apply K.At.drewN) | (with_reducible apply K.At.drew) | (with_reducible apply K.At.far) | omega | (simp <;> omega))) ?_; rfl); obtain ⟨hc8, hf8, hl8⟩ := K.At.facts hH5; have hB6 : K.Bel wr W5 := ⟨hB5.out⟩))
            | (go_at_call 43; (with_reducible refine (G3.out _ ?r1).mono ?_); (case r1 => exact hB6); rintro e W7 ⟨rfl, hown7, hgr7⟩; have hO7 := K.Only.mk hgr7))
          have hH7 := K.At.past hO7 hgg hH5
          have Hb7 := K.H.mk (K.o_only (K.o_bel Hb.out hB6) hO7)
          rw [← HSW.out] at hown7
          go_roundw
          case rel =>
            have h9 := HBN.out
            exact ⟨f, m, swp C i m, rfl, by omega, by rw [swp_len]; omega, ⟨by omega⟩, HR3, hH7, hown7, Hb7⟩
          case measure =>
            have h9 := HBN.out
            simp only [intOf, Int.toNat_natCast]; omega
end Go.Proofs.Ytmoaekjkihbicaa.Tm
