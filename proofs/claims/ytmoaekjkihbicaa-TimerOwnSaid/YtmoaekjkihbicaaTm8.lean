/- Timer: Add's walk. -/
import Derived.Test.YtmoaekjkihbicaaTm7
set_option linter.unusedVariables false
namespace Go.Proofs.Ytmoaekjkihbicaa.Tm
open Go.RowKit Go.Proofs.Ytmoaekjkihbicaa
set_option linter.unusedSimpArgs false
set_option maxRecDepth 100000 in
set_option maxHeartbeats 8000000 in
theorem Add_c (l more : List Tm) (A A2 : Option Addr) (n c n2 c2 : Nat) (w : World) (hr : Sl.Rds w 2 A n (l.flatMap Tm.cs)) (hr2 : Sl.Rds w 2 A2 n2 (more.flatMap Tm.cs)) :
    Calls Try.prog 13 #[.slice A n c, .slice A2 n2 c2] w (TPost w (rAdd l more)) := by
  obtain rfl := hr.length Tm.cs_len (by omega)
  obtain rfl := hr2.length Tm.cs_len (by omega)
  have hle2 := hr2.le
  have GC := K.H.mk (fun (W : World) (hb : Below w.heap.size w W) => Check_c l A l.length c W (hr.below hb))
  by_cases h : eChk l = 0
  · have hl := (eChk_of h).1
    rw [h] at GC
    have HR := K.H.mk (show rAdd l more = addL l more by unfold rAdd; rw [if_pos h])
    obtain ⟨R, hR⟩ : ∃ R, R = rAdd l more := ⟨_, rfl⟩
    rw [← hR] at HR ⊢
    have GK := K.H.mk (fun (W : World) (hb : Below w.heap.size w W) => clone_c (l.flatMap Tm.cs) A l.length c W (hr.below hb) (one_tm l) (by omega))
    have Hr2 := K.H.mk hr2
    clear hr hr2 h hR
    go_enter Try.func13, Try.ntmps13
    go_wp2_with (first
      | (go_at_call 16; (with_reducible refine (GC.out _ (by repeat (first | (with_reducible exact Below.refl _ _) | (with_reducible refine K.b_bel ?_ (by assumption)) | (with_reducible refine K.b_alloc ?_ _) | (with_reducible refine K.b_drewN ?_ _) | (with_reducible refine K.b_drew ?_) | (with_reducible refine K.b_set ?_ (by first | omega | (simp <;> omega)) _) | (with_reducible refine K.b_only ?_ (by assumption) (by first | omega | (simp <;> omega)))))).mono ?_); rintro e W1 ⟨rfl, hb1⟩; obtain ⟨hB1, hC1, hF1, hZ1⟩ := K.bel_facts hb1; clear hb1)
      | (go_at_call 27; (with_reducible refine (GK.out _ ?r1).mono ?_); (case r1 => exact (by repeat (first | (with_reducible exact Below.refl _ _) | (with_reducible refine K.b_bel ?_ (by assumption)) | (with_reducible refine K.b_alloc ?_ _) | (with_reducible refine K.b_drewN ?_ _) | (with_reducible refine K.b_drew ?_) | (with_reducible refine K.b_set ?_ (by first | omega | (simp <;> omega)) _) | (with_reducible refine K.b_only ?_ (by assumption) (by first | omega | (simp <;> omega)))))); rintro e W2 ⟨⟨v2, rfl, hown2⟩, hb2⟩; obtain ⟨B2, d2, rfl, hR2⟩ := Sl.Rds.of_own hown2; have Hown2 := K.H.mk hown2; clear hown2 hR2; obtain ⟨hB2, hC2, hF2, hZ2⟩ := K.bel_facts hb2; clear hb2))
    have hz1 := hB1.out.size
    have hgb : w.heap.size ≤ W2.heap.size := by omega
    have hownB := Sl.own_low (base2 := w.heap.size) (Hown2.out.alloc (.cells #[.slice B2 l.length d2] 57)) hz1
    have HR2 := K.H.mk (show R = addL l (more.drop 0) from HR.out)
    clear GC GK HR Hown2
    generalize hgH : W2.heap.size = gH at *
    have Hb2 : K.H (Below w.heap.size w (W2.alloc (.cells #[.slice B2 l.length d2] 57))) := ⟨(by repeat (first | (with_reducible exact Below.refl _ _) | (with_reducible refine K.b_bel ?_ (by assumption)) | (with_reducible refine K.b_alloc ?_ _) | (with_reducible refine K.b_drewN ?_ _) | (with_reducible refine K.b_drew ?_) | (with_reducible refine K.b_set ?_ (by first | omega | (simp <;> omega)) _) | (with_reducible refine K.b_only ?_ (by assumption) (by first | omega | (simp <;> omega)))))⟩
    have hH2 : K.At (W2.alloc (.cells #[.slice B2 l.length d2] 57)) gH 57 #[.slice B2 l.length d2] := K.At.new' W2 _ _ _ hgH.symm
    ((try clear hC2); (try clear hF2); (try clear hZ2); (try clear hc2); (try clear hf2); (try clear hl2); (try clear hB2); (try clear hO2); (try clear hA2); (try clear hz2_0); (try clear hz2_1); (try clear hz2_2); (try clear hz2_3); (try clear hz2_1_0); (try clear hz2_1_1); (try clear hC1); (try clear hF1); (try clear hZ1); (try clear hc1); (try clear hf1); (try clear hl1); (try clear hB1); (try clear hO1); (try clear hA1); (try clear hz1_0); (try clear hz1_1); (try clear hz1_2); (try clear hz1_3))
    clear hgH
    go_loopw [19] (fun i wr => ∃ (k : Nat) (h : List Tm) (B : Option Addr) (d : Nat), k ≤ more.length ∧ i = .int .i64 k ∧ h.length ≤ 1024 ∧ K.H (R = addL h (more.drop k)) ∧ K.At wr gH 57 #[.slice B h.length d] ∧ wr.ownsRow w.heap.size 25 2 (.slice B h.length d) h.length (h.flatMap Tm.cs) ∧ K.H (Below w.heap.size w wr)) (fun i _ => more.length - (intOf i).toNat)
    case atStart => exact ⟨0, l, B2, d2, by omega, rfl, hl, HR2, hH2, hownB, Hb2⟩
    case round =>
      clear HR2 hH2 hownB Hb2 hl
      obtain ⟨k, h, B, d, hk, rfl, hhl, HR, hH, hown, Hb⟩ := hrel
      have hsz := Hb.out.size
      have hgl := hH.lt
      obtain ⟨hc3, hf3, hl3⟩ := K.At.facts hH
      by_cases hlt : k < more.length
      · obtain ⟨x, hx⟩ : ∃ x, more[k]? = some x := ⟨_, List.getElem?_eq_getElem hlt⟩
        have HX := K.H.mk (drop_at hx)
        obtain ⟨b, off, rfl, hbl, hbc⟩ := Sl.Rds.elem Hr2.out Tm.cs_len (by omega) hx
        have q_0 : wr.cell? ⟨b, off + k * 2, none⟩ = some (.int .i64 x.t) := (Hb.out.cell (p := ⟨b, off + k * 2 + 0, none⟩) hbl).trans (hbc 0 (by omega))
        have q_1 : wr.cell? ⟨b, off + k * 2 + 1, none⟩ = some (.int .i64 x.id) := (Hb.out.cell (p := ⟨b, off + k * 2 + 1, none⟩) hbl).trans (hbc 1 (by omega))
        clear hbc
        have hbw : b < wr.heap.size := Nat.lt_of_lt_of_le hbl hsz
        have hkl : (k : Int) < (more.length : Int) := by omega
        have hne : wr.heap.size ≠ gH := by omega
        have hne2 : gH ≠ wr.heap.size := by omega
        have HS := K.H.mk (show R = if h.length = 1024 then (3, []) else if x.odd = true then (4, []) else if Sl.anyOf (Tm.isId x.id) h = true then (6, []) else addL (pushL h x) (more.drop (k + 1)) by rw [HR.out, HX.out]; rfl)
        have hRd : Sl.Rds wr 2 B h.length (h.flatMap Tm.cs) := by
          obtain ⟨_, _, he9, hR9⟩ := Sl.Rds.of_own hown; cases he9; exact hR9
        have HRd := K.H.mk hRd
        have Hown := K.H.mk hown
        have hH0 := hH
        clear hx HR HX hown hRd
        by_cases h3 : h.length = 1024
        · have hRe : R = (3, []) := by rw [HS.out, if_pos h3]
          have hd3 : ((h.length : Int) == 1024) = true := by rw [h3]; rfl
          subst hRe
          clear HS h3
          go_wp2
          go_ret2
          exact TPost.bad (by repeat (first | (with_reducible exact Below.refl _ _) | (with_reducible exact Hb.out) | (with_reducible refine K.b_bel ?_ (by assumption)) | (with_reducible refine K.b_alloc ?_ _) | (with_reducible refine K.b_drewN ?_ _) | (with_reducible refine K.b_drew ?_) | (with_reducible refine K.b_set ?_ (by first | omega | (simp <;> omega)) _) | (with_reducible refine K.b_only ?_ (by assumption) (by first | omega | (simp <;> omega)))))
        · have hd3 : ((h.length : Int) == 1024) = false := beq_eq_false_iff_ne.2 (by omega)
          have hhl2 : h.length ≤ 1023 := by omega
          cases h4 : x.odd
          · have GO := K.H.mk (fun (W : World) => odd_c x W)
            rw [h4] at GO
            have GA := K.H.mk (fun (W : World) (g : Nat) (hb : Below wr.heap.size wr W) hg => anySame_c x g h B h.length d W (HRd.out.below hb) hg)
            cases h6 : Sl.anyOf (Tm.isId x.id) h
            · rw [h6] at GA
              have HR2 := K.H.mk (show R = addL (pushL h x) (more.drop (k + 1)) by rw [HS.out, if_neg h3, if_neg (by rw [h4]; simp), if_neg (by rw [h6]; simp)])
              clear HS h3 h4 h6
              
              
              
              
              go_wp2_with (first
                | (go_at_call 28; (with_reducible refine (GO.out _).mono ?_); rintro e W4 ⟨rfl, hb4⟩; obtain ⟨hB4, hC4, hF4, hZ4⟩ := K.bel_facts hb4; clear hb4; have kH4 : K.At W4 gH 57 #[.slice B h.length d] := (by refine K.At.cast (by repeat (first | (with_reducible exact hH0) | (with_reducible refine K.At.new' _ _ _ _ (by first | rfl | (simp; done) | omega)) | (with_reducible apply K.At.over hB4) | (with_reducible apply K.At.set) | (with_reducible apply K.At.alloc) | (with_reducible apply K.At.drewN) | (with_reducible apply K.At.drew) | (with_reducible apply K.At.far) | omega | (simp <;> omega))) ?_; rfl); obtain ⟨hc_kH4, hf_kH4, hl_kH4⟩ := K.At.facts kH4; have kT4 : K.At W4 wr.heap.size 25 #[.int .i64 x.t, .int .i64 x.id] := (by refine K.At.cast (by repeat (first | (with_reducible refine K.At.new' _ _ _ _ (by first | rfl | (simp; done) | omega)) | (with_reducible apply K.At.over hB4) | (with_reducible apply K.At.set) | (with_reducible apply K.At.alloc) | (with_reducible apply K.At.drewN) | (with_reducible apply K.At.drew) | (with_reducible apply K.At.far) | omega | (simp <;> omega))) ?_; rfl); obtain ⟨hc_kT4, hf_kT4, hl_kT4⟩ := K.At.facts kT4)
                | (go_at_call 29; (with_reducible refine (GA.out _ _ (by repeat (first | (with_reducible exact Below.refl _ _) | (with_reducible refine K.b_bel ?_ (by assumption)) | (with_reducible refine K.b_alloc ?_ _) | (with_reducible refine K.b_drewN ?_ _) | (with_reducible refine K.b_drew ?_) | (with_reducible refine K.b_set ?_ (by first | omega | (simp <;> omega)) _) | (with_reducible refine K.b_only ?_ (by assumption) (by first | omega | (simp <;> omega))))) kT4).mono ?_); rintro e W5 ⟨rfl, hb5⟩; obtain ⟨hB5, hC5, hF5, hZ5⟩ := K.bel_facts hb5; clear hb5; have kH5 : K.At W5 gH 57 #[.slice B h.length d] := (by refine K.At.cast (by repeat (first | (with_reducible exact kH4) | (with_reducible refine K.At.new' _ _ _ _ (by first | rfl | (simp; done) | omega)) | (with_reducible apply K.At.over hB5) | (with_reducible apply K.At.set) | (with_reducible apply K.At.alloc) | (with_reducible apply K.At.drewN) | (with_reducible apply K.At.drew) | (with_reducible apply K.At.far) | omega | (simp <;> omega))) ?_; rfl); obtain ⟨hc_kH5, hf_kH5, hl_kH5⟩ := K.At.facts kH5; clear hc_kH4 hf_kH4 hl_kH4; have kT5 : K.At W5 wr.heap.size 25 #[.int .i64 x.t, .int .i64 x.id] := (by refine K.At.cast (by repeat (first | (with_reducible exact kT4) | (with_reducible refine K.At.new' _ _ _ _ (by first | rfl | (simp; done) | omega)) | (with_reducible apply K.At.over hB5) | (with_reducible apply K.At.set) | (with_reducible apply K.At.alloc) | (with_reducible apply K.At.drewN) | (with_reducible apply K.At.drew) | (with_reducible apply K.At.far) | omega | (simp <;> omega))) ?_; rfl); obtain ⟨hc_kT5, hf_kT5, hl_kT5⟩ := K.At.facts kT5; clear hc_kT4 hf_kT4 hl_kT4)
                | (go_at_call 31; (with_reducible refine (push_c h x gH w.heap.size (.slice B h.length d) _ ?r1 ?r2 ?r3 (by omega) hgb).mono ?_); (case r1 => exact kH5); (case r2 => exact Sl.own_over (Sl.own_over (Hown.out.alloc _) hB4) hB5); (case r3 => omega); rintro e W7 ⟨rfl, v7, hH7, hown7, hb7⟩))
              have hl7 := pushL_len h x
              obtain ⟨B7, d7, rfl, hR7⟩ := Sl.Rds.of_own hown7
              rw [← hl7] at hH7 hown7
              have hb5 : Below w.heap.size w W5 := (by repeat (first | (with_reducible exact Below.refl _ _) | (with_reducible exact Hb.out) | (with_reducible refine K.b_bel ?_ (by assumption)) | (with_reducible refine K.b_alloc ?_ _) | (with_reducible refine K.b_drewN ?_ _) | (with_reducible refine K.b_drew ?_) | (with_reducible refine K.b_set ?_ (by first | omega | (simp <;> omega)) _) | (with_reducible refine K.b_only ?_ (by assumption) (by first | omega | (simp <;> omega)))))
              go_roundw
              case rel => exact ⟨k + 1, pushL h x, B7, d7, by omega, by go_num, by omega, HR2, hH7, hown7, ⟨hb5.trans hb7⟩⟩
              case measure => simp [intOf]; omega
            · rw [h6] at GA
              have hRe : R = (6, []) := by rw [HS.out, if_neg h3, if_neg (by rw [h4]; simp), if_pos h6]
              subst hRe
              clear HS h3 h4 h6
              
              
              
              
              go_wp2_with (first
                | (go_at_call 28; (with_reducible refine (GO.out _).mono ?_); rintro e W4 ⟨rfl, hb4⟩; obtain ⟨hB4, hC4, hF4, hZ4⟩ := K.bel_facts hb4; clear hb4; have kH4 : K.At W4 gH 57 #[.slice B h.length d] := (by refine K.At.cast (by repeat (first | (with_reducible exact hH0) | (with_reducible refine K.At.new' _ _ _ _ (by first | rfl | (simp; done) | omega)) | (with_reducible apply K.At.over hB4) | (with_reducible apply K.At.set) | (with_reducible apply K.At.alloc) | (with_reducible apply K.At.drewN) | (with_reducible apply K.At.drew) | (with_reducible apply K.At.far) | omega | (simp <;> omega))) ?_; rfl); obtain ⟨hc_kH4, hf_kH4, hl_kH4⟩ := K.At.facts kH4; have kT4 : K.At W4 wr.heap.size 25 #[.int .i64 x.t, .int .i64 x.id] := (by refine K.At.cast (by repeat (first | (with_reducible refine K.At.new' _ _ _ _ (by first | rfl | (simp; done) | omega)) | (with_reducible apply K.At.over hB4) | (with_reducible apply K.At.set) | (with_reducible apply K.At.alloc) | (with_reducible apply K.At.drewN) | (with_reducible apply K.At.drew) | (with_reducible apply K.At.far) | omega | (simp <;> omega))) ?_; rfl); obtain ⟨hc_kT4, hf_kT4, hl_kT4⟩ := K.At.facts kT4)
                | (go_at_call 29; (with_reducible refine (GA.out _ _ (by repeat (first | (with_reducible exact Below.refl _ _) | (with_reducible refine K.b_bel ?_ (by assumption)) | (with_reducible refine K.b_alloc ?_ _) | (with_reducible refine K.b_drewN ?_ _) | (with_reducible refine K.b_drew ?_) | (with_reducible refine K.b_set ?_ (by first | omega | (simp <;> omega)) _) | (with_reducible refine K.b_only ?_ (by assumption) (by first | omega | (simp <;> omega))))) kT4).mono ?_); rintro e W5 ⟨rfl, hb5⟩; obtain ⟨hB5, hC5, hF5, hZ5⟩ := K.bel_facts hb5; clear hb5; have kH5 : K.At W5 gH 57 #[.slice B h.length d] := (by refine K.At.cast (by repeat (first | (with_reducible exact kH4) | (with_reducible refine K.At.new' _ _ _ _ (by first | rfl | (simp; done) | omega)) | (with_reducible apply K.At.over hB5) | (with_reducible apply K.At.set) | (with_reducible apply K.At.alloc) | (with_reducible apply K.At.drewN) | (with_reducible apply K.At.drew) | (with_reducible apply K.At.far) | omega | (simp <;> omega))) ?_; rfl); obtain ⟨hc_kH5, hf_kH5, hl_kH5⟩ := K.At.facts kH5; clear hc_kH4 hf_kH4 hl_kH4; have kT5 : K.At W5 wr.heap.size 25 #[.int .i64 x.t, .int .i64 x.id] := (by refine K.At.cast (by repeat (first | (with_reducible exact kT4) | (with_reducible refine K.At.new' _ _ _ _ (by first | rfl | (simp; done) | omega)) | (with_reducible apply K.At.over hB5) | (with_reducible apply K.At.set) | (with_reducible apply K.At.alloc) | (with_reducible apply K.At.drewN) | (with_reducible apply K.At.drew) | (with_reducible apply K.At.far) | omega | (simp <;> omega))) ?_; rfl); obtain ⟨hc_kT5, hf_kT5, hl_kT5⟩ := K.At.facts kT5; clear hc_kT4 hf_kT4 hl_kT4))
              go_ret2
              exact TPost.bad (by repeat (first | (with_reducible exact Below.refl _ _) | (with_reducible exact Hb.out) | (with_reducible refine K.b_bel ?_ (by assumption)) | (with_reducible refine K.b_alloc ?_ _) | (with_reducible refine K.b_drewN ?_ _) | (with_reducible refine K.b_drew ?_) | (with_reducible refine K.b_set ?_ (by first | omega | (simp <;> omega)) _) | (with_reducible refine K.b_only ?_ (by assumption) (by first | omega | (simp <;> omega)))))
          · have GO := K.H.mk (fun (W : World) => odd_c x W)
            rw [h4] at GO
            have hRe : R = (4, []) := by rw [HS.out, if_neg h3, if_pos h4]
            subst hRe
            clear HS h3 h4
            go_wp2_with (first | (go_at_call 28; (with_reducible refine (GO.out _).mono ?_); rintro e W4 ⟨rfl, hb4⟩; obtain ⟨hB4, hC4, hF4, hZ4⟩ := K.bel_facts hb4; clear hb4))
            go_ret2
            exact TPost.bad (by repeat (first | (with_reducible exact Below.refl _ _) | (with_reducible exact Hb.out) | (with_reducible refine K.b_bel ?_ (by assumption)) | (with_reducible refine K.b_alloc ?_ _) | (with_reducible refine K.b_drewN ?_ _) | (with_reducible refine K.b_drew ?_) | (with_reducible refine K.b_set ?_ (by first | omega | (simp <;> omega)) _) | (with_reducible refine K.b_only ?_ (by assumption) (by first | omega | (simp <;> omega)))))
      · obtain rfl : k = more.length := by omega
        rw [List.drop_length] at HR
        have hRe : R = (0, h) := HR.out
        subst hRe
        clear HR
        go_wp2
        go_ret2
        exact ⟨_, rfl, hown, Hb.out⟩
  · have hd : (eChk l != 0) = true := by simpa using h
    rw [show rAdd l more = (eChk l, []) by unfold rAdd; rw [if_neg h]]
    generalize eChk l = er at *
    clear hr hr2 h
    go_enter Try.func13, Try.ntmps13
    go_wp2_with (first | (go_at_call 16; (with_reducible refine (GC.out _ (by repeat (first | (with_reducible exact Below.refl _ _) | (with_reducible refine K.b_bel ?_ (by assumption)) | (with_reducible refine K.b_alloc ?_ _) | (with_reducible refine K.b_drewN ?_ _) | (with_reducible refine K.b_drew ?_) | (with_reducible refine K.b_set ?_ (by first | omega | (simp <;> omega)) _) | (with_reducible refine K.b_only ?_ (by assumption) (by first | omega | (simp <;> omega)))))).mono ?_); rintro e W1 ⟨rfl, hb1⟩; obtain ⟨hB1, hC1, hF1, hZ1⟩ := K.bel_facts hb1; clear hb1))
    go_ret2
    exact TPost.bad (by repeat (first | (with_reducible exact Below.refl _ _) | (with_reducible refine K.b_bel ?_ (by assumption)) | (with_reducible refine K.b_alloc ?_ _) | (with_reducible refine K.b_drewN ?_ _) | (with_reducible refine K.b_drew ?_) | (with_reducible refine K.b_set ?_ (by first | omega | (simp <;> omega)) _) | (with_reducible refine K.b_only ?_ (by assumption) (by first | omega | (simp <;> omega)))))
end Go.Proofs.Ytmoaekjkihbicaa.Tm
