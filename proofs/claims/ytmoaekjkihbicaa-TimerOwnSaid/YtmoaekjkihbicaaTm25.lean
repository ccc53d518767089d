/- Timer: the reference's First, Add. -/
import Derived.Test.YtmoaekjkihbicaaTm22
import Derived.Test.YtmoaekjkihbicaaTm23
set_option linter.unusedVariables false
namespace Go.Proofs.Ytmoaekjkihbicaa.Tm
open Go.RowKit Go.Proofs.Ytmoaekjkihbicaa
set_option linter.unusedSimpArgs false
set_option maxRecDepth 100000 in
set_option maxHeartbeats 4000000 in
theorem rFirst_c (l : List Tm) (A : Option Addr) (n c : Nat) (w : World) (hr : Sl.Rds w 2 A n (l.flatMap Tm.cs)) :
    Calls Try.prog 23 #[.slice A n c] w fun e w' => e = .returned (.tuple #[(oFirst l).a, .int .i64 (eFirst l)]) ∧ Below w.heap.size w w' := by
  obtain rfl := hr.length Tm.cs_len (by omega)
  have GC := K.H.mk (fun (W : World) (hb : Below w.heap.size w W) => rCheck_c l A l.length c W (hr.below hb))
  by_cases h : eChk l = 0
  · rw [h] at GC
    by_cases h0 : l.length = 0
    · rw [show oFirst l = ⟨0, 0⟩ by unfold oFirst eFirst; rw [if_pos h, if_pos h0]; rfl, show eFirst l = 71 by unfold eFirst; rw [if_pos h, if_pos h0]]
      have hd : ((l.length : Int) == 0) = true := by simp [h0]
      clear hr h h0
      
      
      go_enter Try.func23, Try.ntmps23
      go_wp2_with (first | (go_at_call 26; (with_reducible refine (GC.out _ (by repeat (first | (with_reducible exact Below.refl _ _) | (with_reducible refine K.b_bel ?_ (by assumption)) | (with_reducible refine K.b_alloc ?_ _) | (with_reducible refine K.b_drewN ?_ _) | (with_reducible refine K.b_drew ?_) | (with_reducible refine K.b_set ?_ (by first | omega | (simp <;> omega)) _) | (with_reducible refine K.b_only ?_ (by assumption) (by first | omega | (simp <;> omega)))))).mono ?_); rintro e W1 ⟨rfl, hb1⟩; obtain ⟨hB1, hC1, hF1, hZ1⟩ := K.bel_facts hb1; clear hb1; have kR1 : K.At W1 w.heap.size 25 #[.int .i64 0, .int .i64 0] := (by refine K.At.cast (by repeat (first | (with_reducible refine K.At.new' _ _ _ _ (by first | rfl | (simp; done) | omega)) | (with_reducible apply K.At.over hB1) | (with_reducible apply K.At.set) | (with_reducible apply K.At.alloc) | (with_reducible apply K.At.drewN) | (with_reducible apply K.At.drew) | (with_reducible apply K.At.far) | omega | (simp <;> omega))) ?_; rfl); obtain ⟨hc_kR1, hf_kR1, hl_kR1⟩ := K.At.facts kR1))
      ((try simp only [Exit.inBlock, Exit.then]); refine bodyPost_ret (v := .tuple #[.agg #[.int .i64 0, .int .i64 0], .int .i64 71]) (by simp only [results, Try.results23]; go_simp) rfl ?_)
      exact ⟨rfl, (by repeat (first | (with_reducible exact Below.refl _ _) | (with_reducible refine K.b_bel ?_ (by assumption)) | (with_reducible refine K.b_alloc ?_ _) | (with_reducible refine K.b_drewN ?_ _) | (with_reducible refine K.b_drew ?_) | (with_reducible refine K.b_set ?_ (by first | omega | (simp <;> omega)) _) | (with_reducible refine K.b_only ?_ (by assumption) (by first | omega | (simp <;> omega)))))⟩
    · obtain ⟨x, hx⟩ : ∃ x, l[0]? = some x := ⟨_, List.getElem?_eq_getElem (by omega)⟩
      have he : eFirst l = 0 := by unfold eFirst; rw [if_pos h, if_neg h0]
      rw [show oFirst l = x by unfold oFirst; rw [if_pos he, List.getD_eq_getElem?_getD, hx]; rfl, he]
      have hd : ((l.length : Int) == 0) = false := beq_eq_false_iff_ne.2 (by omega)
      have hl0 : (0 : Int) < (l.length : Int) := by omega
      have Hr := K.H.mk hr
      obtain ⟨b, off, rfl, hbl, hbc⟩ := Sl.Rds.elem Hr.out Tm.cs_len (by omega) hx
      have q_0 : w.cell? ⟨b, off + 0 * 2, none⟩ = some (.int .i64 x.t) := ((Below.refl _ _ : Below w.heap.size w w).cell (p := ⟨b, off + 0 * 2 + 0, none⟩) hbl).trans (hbc 0 (by omega))
      have q_1 : w.cell? ⟨b, off + 0 * 2 + 1, none⟩ = some (.int .i64 x.id) := ((Below.refl _ _ : Below w.heap.size w w).cell (p := ⟨b, off + 0 * 2 + 1, none⟩) hbl).trans (hbc 1 (by omega))
      clear hbc
      simp only [Nat.zero_mul, Nat.add_zero] at q_0 q_1
      clear hr h h0 hx he
      
      
      go_enter Try.func23, Try.ntmps23
      go_wp2_with (first | (go_at_call 26; (with_reducible refine (GC.out _ (by repeat (first | (with_reducible exact Below.refl _ _) | (with_reducible refine K.b_bel ?_ (by assumption)) | (with_reducible refine K.b_alloc ?_ _) | (with_reducible refine K.b_drewN ?_ _) | (with_reducible refine K.b_drew ?_) | (with_reducible refine K.b_set ?_ (by first | omega | (simp <;> omega)) _) | (with_reducible refine K.b_only ?_ (by assumption) (by first | omega | (simp <;> omega)))))).mono ?_); rintro e W1 ⟨rfl, hb1⟩; obtain ⟨hB1, hC1, hF1, hZ1⟩ := K.bel_facts hb1; clear hb1; have kR1 : K.At W1 w.heap.size 25 #[.int .i64 0, .int .i64 0] := (by refine K.At.cast (by repeat (first | (with_reducible refine K.At.new' _ _ _ _ (by first | rfl | (simp; done) | omega)) | (with_reducible apply K.At.over hB1) | (with_reducible apply K.At.set) | (with_reducible apply K.At.alloc) | (with_reducible apply K.At.drewN) | (with_reducible apply K.At.drew) | (with_reducible apply K.At.far) | omega | (simp <;> omega))) ?_; rfl); obtain ⟨hc_kR1, hf_kR1, hl_kR1⟩ := K.At.facts kR1))
      ((try simp only [Exit.inBlock, Exit.then]); refine bodyPost_ret (v := .tuple #[.agg #[.int .i64 x.t, .int .i64 x.id], .int .i64 0]) (by simp only [results, Try.results23]; go_simp) rfl ?_)
      exact ⟨rfl, (by repeat (first | (with_reducible exact Below.refl _ _) | (with_reducible refine K.b_bel ?_ (by assumption)) | (with_reducible refine K.b_alloc ?_ _) | (with_reducible refine K.b_drewN ?_ _) | (with_reducible refine K.b_drew ?_) | (with_reducible refine K.b_set ?_ (by first | omega | (simp <;> omega)) _) | (with_reducible refine K.b_only ?_ (by assumption) (by first | omega | (simp <;> omega)))))⟩
  · have he : eFirst l = eChk l := by unfold eFirst; rw [if_neg h]
    rw [show oFirst l = ⟨0, 0⟩ by unfold oFirst; rw [if_neg (by omega)], he]
    have hd : (eChk l != 0) = true := by simpa using h
    generalize eChk l = er at *
    clear hr h he
    
    
    go_enter Try.func23, Try.ntmps23
    go_wp2_with (first | (go_at_call 26; (with_reducible refine (GC.out _ (by repeat (first | (with_reducible exact Below.refl _ _) | (with_reducible refine K.b_bel ?_ (by assumption)) | (with_reducible refine K.b_alloc ?_ _) | (with_reducible refine K.b_drewN ?_ _) | (with_reducible refine K.b_drew ?_) | (with_reducible refine K.b_set ?_ (by first | omega | (simp <;> omega)) _) | (with_reducible refine K.b_only ?_ (by assumption) (by first | omega | (simp <;> omega)))))).mono ?_); rintro e W1 ⟨rfl, hb1⟩; obtain ⟨hB1, hC1, hF1, hZ1⟩ := K.bel_facts hb1; clear hb1; have kR1 : K.At W1 w.heap.size 25 #[.int .i64 0, .int .i64 0] := (by refine K.At.cast (by repeat (first | (with_reducible refine K.At.new' _ _ _ _ (by first | rfl | (simp; done) | omega)) | (with_reducible apply K.At.over hB1) | (with_reducible apply K.At.set) | (with_reducible apply K.At.alloc) | (with_reducible apply K.At.drewN) | (with_reducible apply K.At.drew) | (with_reducible apply K.At.far) | omega | (simp <;> omega))) ?_; rfl); obtain ⟨hc_kR1, hf_kR1, hl_kR1⟩ := K.At.facts kR1))
    ((try simp only [Exit.inBlock, Exit.then]); refine bodyPost_ret (v := .tuple #[.agg #[.int .i64 0, .int .i64 0], .int .i64 er]) (by simp only [results, Try.results23]; go_simp) rfl ?_)
    exact ⟨rfl, (by repeat (first | (with_reducible exact Below.refl _ _) | (with_reducible refine K.b_bel ?_ (by assumption)) | (with_reducible refine K.b_alloc ?_ _) | (with_reducible refine K.b_drewN ?_ _) | (with_reducible refine K.b_drew ?_) | (with_reducible refine K.b_set ?_ (by first | omega | (simp <;> omega)) _) | (with_reducible refine K.b_only ?_ (by assumption) (by first | omega | (simp <;> omega)))))⟩
set_option maxRecDepth 100000 in
set_option maxHeartbeats 8000000 in
theorem rAdd_c (l more : List Tm) (A A2 : Option Addr) (n c n2 c2 : Nat) (w : World) (hr : Sl.Rds w 2 A n (l.flatMap Tm.cs)) (hr2 : Sl.Rds w 2 A2 n2 (more.flatMap Tm.cs)) :
    Calls Try.prog 20 #[.slice A n c, .slice A2 n2 c2] w (TPost w (rAdd l more)) := by
  obtain rfl := hr.length Tm.cs_len (by omega)
  obtain rfl := hr2.length Tm.cs_len (by omega)
  have hle2 := hr2.le
  have GC := K.H.mk (fun (W : World) (hb : Below w.heap.size w W) => rCheck_c l A l.length c W (hr.below hb))
  by_cases h : eChk l = 0
  · have hl := (eChk_of h).1
    rw [h] at GC
    have HR := K.H.mk (show rAdd l more = addL l more by unfold rAdd; rw [if_pos h])
    obtain ⟨R, hR⟩ : ∃ R, R = rAdd l more := ⟨_, rfl⟩
    rw [← hR] at HR ⊢
    have GK := K.H.mk (fun (W : World) (hb : Below w.heap.size w W) => own_c (l.flatMap Tm.cs) A l.length c W (hr.below hb) (one_tm l) (by omega))
    have Hr2 := K.H.mk hr2
    clear hr hr2 h hR
    go_enter Try.func20, Try.ntmps20
    go_wp2_with (first
      | (go_at_call 26; (with_reducible refine (GC.out _ (by repeat (first | (with_reducible exact Below.refl _ _) | (with_reducible refine K.b_bel ?_ (by assumption)) | (with_reducible refine K.b_alloc ?_ _) | (with_reducible refine K.b_drewN ?_ _) | (with_reducible refine K.b_drew ?_) | (with_reducible refine K.b_set ?_ (by first | omega | (simp <;> omega)) _) | (with_reducible refine K.b_only ?_ (by assumption) (by first | omega | (simp <;> omega)))))).mono ?_); rintro e W1 ⟨rfl, hb1⟩; obtain ⟨hB1, hC1, hF1, hZ1⟩ := K.bel_facts hb1; clear hb1)
      | (go_at_call 19; (with_reducible refine (GK.out _ ?r1).mono ?_); (case r1 => exact (by repeat (first | (with_reducible exact Below.refl _ _) | (with_reducible refine K.b_bel ?_ (by assumption)) | (with_reducible refine K.b_alloc ?_ _) | (with_reducible refine K.b_drewN ?_ _) | (with_reducible refine K.b_drew ?_) | (with_reducible refine K.b_set ?_ (by first | omega | (simp <;> omega)) _) | (with_reducible refine K.b_only ?_ (by assumption) (by first | omega | (simp <;> omega)))))); rintro e W2 ⟨⟨v2, rfl, hown2⟩, hb2⟩; obtain ⟨B2, d2, rfl, hR2⟩ := Sl.Rds.of_own hown2; have Hown2 := K.H.mk hown2; clear hown2 hR2; obtain ⟨hB2, hC2, hF2, hZ2⟩ := K.bel_facts hb2; clear hb2))
    have hz1 := hB1.out.size
    have hownB := Sl.own_low (base2 := w.heap.size) Hown2.out hz1
    have HR2 := K.H.mk (show R = addL l (more.drop 0) from HR.out)
    have Hb2 : K.H (Below w.heap.size w W2) := ⟨(by repeat (first | (with_reducible exact Below.refl _ _) | (with_reducible refine K.b_bel ?_ (by assumption)) | (with_reducible refine K.b_alloc ?_ _) | (with_reducible refine K.b_drewN ?_ _) | (with_reducible refine K.b_drew ?_) | (with_reducible refine K.b_set ?_ (by first | omega | (simp <;> omega)) _) | (with_reducible refine K.b_only ?_ (by assumption) (by first | omega | (simp <;> omega)))))⟩
    clear GC GK HR Hown2
    ((try clear hC2); (try clear hF2); (try clear hZ2); (try clear hc2); (try clear hf2); (try clear hl2); (try clear hB2); (try clear hO2); (try clear hA2); (try clear hz2_0); (try clear hz2_1); (try clear hz2_2); (try clear hz2_3); (try clear hz2_1_0); (try clear hz2_1_1); (try clear hC1); (try clear hF1); (try clear hZ1); (try clear hc1); (try clear hf1); (try clear hl1); (try clear hB1); (try clear hO1); (try clear hA1); (try clear hz1_0); (try clear hz1_1); (try clear hz1_2); (try clear hz1_3))
    go_loopw [7, 8] (fun v7 i wr => ∃ (k : Nat) (h : List Tm) (B : Option Addr) (d : Nat), k ≤ more.length ∧ i = .int .i64 k ∧ v7 = .slice B h.length d ∧ h.length ≤ 1024 ∧ K.H (R = addL h (more.drop k)) ∧ wr.ownsRow w.heap.size 25 2 (.slice B h.length d) h.length (h.flatMap Tm.cs) ∧ K.H (Below w.heap.size w wr)) (fun _ i _ => more.length - (intOf i).toNat)
    case atStart => exact ⟨0, l, B2, d2, by omega, rfl, rfl, hl, HR2, hownB, Hb2⟩
    case round =>
      clear HR2 hownB Hb2 hl
      obtain ⟨k, h, B, d, hk, rfl, rfl, hhl, HR, hown, Hb⟩ := hrel
      have hsz := Hb.out.size
      by_cases hlt : k < more.length
      · obtain ⟨x, hx⟩ : ∃ x, more[k]? = some x := ⟨_, List.getElem?_eq_getElem hlt⟩
        have HX := K.H.mk (drop_at hx)
        have Hx := K.H.mk hx
        obtain ⟨b, off, rfl, hbl, hbc⟩ := Sl.Rds.elem Hr2.out Tm.cs_len (by omega) hx
        have q_0 : wr.cell? ⟨b, off + k * 2, none⟩ = some (.int .i64 x.t) := (Hb.out.cell (p := ⟨b, off + k * 2 + 0, none⟩) hbl).trans (hbc 0 (by omega))
        have q_1 : wr.cell? ⟨b, off + k * 2 + 1, none⟩ = some (.int .i64 x.id) := (Hb.out.cell (p := ⟨b, off + k * 2 + 1, none⟩) hbl).trans (hbc 1 (by omega))
        clear hbc
        have hbw : b < wr.heap.size := Nat.lt_of_lt_of_le hbl hsz
        have hkl : (k : Int) < (more.length : Int) := by omega
        have HS := K.H.mk (show R = if h.length = 1024 then (3, []) else if x.odd = true then (4, []) else if Sl.anyOf (Tm.isId x.id) h = true then (6, []) else addL (pushL h x) (more.drop (k + 1)) by rw [HR.out, HX.out]; rfl)
        have Hown := K.H.mk hown
        have GO := K.H.mk (fun (W : World) => rmay_c x W)
        clear hx HR HX hown
        by_cases h3 : h.length = 1024
        · have hRe : R = (3, []) := by rw [HS.out, if_pos h3]
          have hd3 : ((h.length : Int) == 1024) = true := by rw [h3]; rfl
          subst hRe
          clear HS h3
          go_wp2
          go_ret2
          exact TPost.bad Hb.out
        · have hd3 : ((h.length : Int) == 1024) = false := beq_eq_false_iff_ne.2 (by omega)
          have hhl2 : h.length ≤ 1023 := by omega
          cases h4 : x.odd
          · rw [h4] at GO
            have HS2 := K.H.mk (show R = if Sl.anyOf (Tm.isId x.id) h = true then (6, []) else addL (pushL h x) (more.drop (k + 1)) by rw [HS.out, if_neg h3, if_neg (by rw [h4]; simp)])
            clear HS h3 h4
            go_wp2_with (first | (go_at_call 39; (with_reducible refine (GO.out _).mono ?_); rintro e W4 ⟨rfl, hb4⟩; obtain ⟨hB4, hC4, hF4, hZ4⟩ := K.bel_facts hb4; clear hb4))
            have hb4 : Below w.heap.size w W4 := (by repeat (first | (with_reducible exact Below.refl _ _) | (with_reducible exact Hb.out) | (with_reducible refine K.b_bel ?_ (by assumption)) | (with_reducible refine K.b_alloc ?_ _) | (with_reducible refine K.b_drewN ?_ _) | (with_reducible refine K.b_drew ?_) | (with_reducible refine K.b_set ?_ (by first | omega | (simp <;> omega)) _) | (with_reducible refine K.b_only ?_ (by assumption) (by first | omega | (simp <;> omega)))))
            have Hb4 := K.H.mk hb4
            have Hown4 := K.H.mk (Sl.own_over Hown.out hB4)
            have hsz4 := hb4.size
            have hRd4 : Sl.Rds W4 2 B h.length (h.flatMap Tm.cs) := by
              obtain ⟨_, _, he9, hR9⟩ := Sl.Rds.of_own Hown4.out; cases he9; exact hR9
            have HRd4 := K.H.mk hRd4
            clear hb4 hRd4 Hown Hb hd3 q_0 q_1
            ((try clear hC4); (try clear hF4); (try clear hZ4); (try clear hc4); (try clear hf4); (try clear hl4); (try clear hB4); (try clear hO4); (try clear hA4); (try clear hz4_0); (try clear hz4_1); (try clear hz4_2); (try clear hz4_3); (try clear hz4_1_0); (try clear hz4_1_1); (try clear hz4_2_0); (try clear hz4_2_1); (try clear hz4_3_0); (try clear hz4_3_1))
            go_loopw [9] (fun v9 wr => ∃ j : Nat, j ≤ h.length ∧ v9 = .int .i64 j ∧ K.H (∀ p y, p < j → h[p]? = some y → Tm.isId x.id y = false) ∧ K.Bel W4 wr) (fun v9 _ => h.length - (intOf v9).toNat)
            case atStart => exact ⟨0, by omega, rfl, ⟨fun p y h => by omega⟩, ⟨Below.refl _ _⟩⟩
            case round =>
              obtain ⟨j, hj, rfl, HD, hBq⟩ := hrel
              have hbq : Below w.heap.size w wr := Hb4.out.trans (hBq.out.mono hsz4)
              have q_0 : wr.cell? ⟨b, off + k * 2, none⟩ = some (.int .i64 x.t) := by
                obtain ⟨b2, off2, e2, hbl2, hbc2⟩ := Sl.Rds.elem Hr2.out Tm.cs_len (by omega) Hx.out
                cases e2; exact (hbq.cell (p := ⟨b, off + k * 2 + 0, none⟩) hbl2).trans (hbc2 0 (by omega))
              have q_1 : wr.cell? ⟨b, off + k * 2 + 1, none⟩ = some (.int .i64 x.id) := by
                obtain ⟨b2, off2, e2, hbl2, hbc2⟩ := Sl.Rds.elem Hr2.out Tm.cs_len (by omega) Hx.out
                cases e2; exact (hbq.cell (p := ⟨b, off + k * 2 + 1, none⟩) hbl2).trans (hbc2 1 (by omega))
              have Hbq := K.H.mk hbq
              have hbw : b < wr.heap.size := Nat.lt_of_lt_of_le hbl hbq.size
              clear hbq
              by_cases hjl : j < h.length
              · obtain ⟨y, hy⟩ : ∃ y, h[j]? = some y := ⟨_, List.getElem?_eq_getElem hjl⟩
                obtain ⟨b5, off5, rfl, hbl5, hbc5⟩ := Sl.Rds.elem HRd4.out Tm.cs_len (by omega) hy
                have q5_0 : wr.cell? ⟨b5, off5 + j * 2, none⟩ = some (.int .i64 y.t) := (hBq.out.cell (p := ⟨b5, off5 + j * 2 + 0, none⟩) hbl5).trans (hbc5 0 (by omega))
                have q5_1 : wr.cell? ⟨b5, off5 + j * 2 + 1, none⟩ = some (.int .i64 y.id) := (hBq.out.cell (p := ⟨b5, off5 + j * 2 + 1, none⟩) hbl5).trans (hbc5 1 (by omega))
                clear hbc5
                have hbw5 : b5 < wr.heap.size := Nat.lt_of_lt_of_le hbl5 hBq.out.size
                have HY := K.H.mk hy
                have hjI : (j : Int) < (h.length : Int) := by omega
                have hBq0 := hBq
                clear hy
                cases hp : (y.id == x.id)
                · have HP := K.H.mk hp
                  go_wp2
                  refine K.wp_region_ext_lit (by kernel_rfl) (by kernel_rfl) ?_
                  repeat (any_goals (first | go_big_quiet_skip | quiet_step (fail) | (refine wpQuiet_step (fun K hK => ?_); go_simp; split <;> (refine hK _ ?_; clear hK K))))
                  all_goals (refine wpQuiet_nil ?_; intro W9 hW9; obtain ⟨hB9, hC9, hF9, hZ9⟩ := K.ext_facts hW9; clear hW9)
                  all_goals go_wp2
                  go_roundw
                  case rel =>
                    refine ⟨j + 1, by omega, by go_num, ⟨fun p z hp hz => ?_⟩, ⟨hBq0.out.trans (hB9.out.mono hBq0.out.size)⟩⟩
                    by_cases hpj : p = j
                    · subst hpj; rw [HY.out] at hz; cases hz; exact HP.out
                    · exact HD.out p z (by omega) hz
                  case measure => simp [intOf]; omega
                · have hRe : R = (6, []) := by
                    rw [HS2.out, if_pos]
                    unfold Sl.anyOf; rw [List.any_eq_true]
                    exact ⟨y, List.mem_of_getElem? HY.out, hp⟩
                  subst hRe
                  go_wp2
                  refine K.wp_region_ext_lit (by kernel_rfl) (by kernel_rfl) ?_
                  repeat (any_goals (first | go_big_quiet_skip | quiet_step (fail) | (refine wpQuiet_step (fun K hK => ?_); go_simp; split <;> (refine hK _ ?_; clear hK K))))
                  all_goals (refine wpQuiet_nil ?_; intro W9 hW9; obtain ⟨hB9, hC9, hF9, hZ9⟩ := K.ext_facts hW9; clear hW9)
                  all_goals go_wp2
                  go_ret2
                  exact TPost.bad (by repeat (first | (with_reducible exact Below.refl _ _) | (with_reducible exact Hbq.out) | (with_reducible refine K.b_bel ?_ (by assumption)) | (with_reducible refine K.b_alloc ?_ _) | (with_reducible refine K.b_drewN ?_ _) | (with_reducible refine K.b_drew ?_) | (with_reducible refine K.b_set ?_ (by first | omega | (simp <;> omega)) _) | (with_reducible refine K.b_only ?_ (by assumption) (by first | omega | (simp <;> omega)))))
              · obtain rfl : j = h.length := by omega
                have HR2 := K.H.mk (show R = addL (pushL h x) (more.drop (k + 1)) by
                  rw [HS2.out, if_neg]
                  intro h9
                  obtain ⟨y, hy, h10⟩ := Sl.anyOf_true h9
                  obtain ⟨p, hp⟩ := List.getElem?_of_mem hy
                  rw [HD.out p y (List.getElem?_eq_some_iff.1 hp).1 hp] at h10; cases h10)
                have hl7 := pushL_len h x
                have hszq := Hbq.out.size
                have GP := K.H.mk (rput_c h x w.heap.size (.slice B h.length d) wr (Sl.own_over Hown4.out hBq) hszq (by omega))
                rw [← hl7] at GP
                go_wp2_with (first | (go_at_call 40; (with_reducible refine GP.out.mono ?_); rintro e W7 ⟨g7, d7, rfl, hown7, hb7⟩))
                go_roundw
                case rel => exact ⟨k + 1, pushL h x, some ⟨g7, 0, none⟩, d7, by omega, by go_num, by rw [hl7], by omega, HR2, hown7, ⟨Hbq.out.trans hb7⟩⟩
                case measure => simp [intOf]; omega
          · rw [h4] at GO
            have hRe : R = (4, []) := by rw [HS.out, if_neg h3, if_pos h4]
            subst hRe
            clear HS h3 h4
            go_wp2_with (first | (go_at_call 39; (with_reducible refine (GO.out _).mono ?_); rintro e W4 ⟨rfl, hb4⟩; obtain ⟨hB4, hC4, hF4, hZ4⟩ := K.bel_facts hb4; clear hb4))
            go_ret2
            exact TPost.bad (by repeat (first | (with_reducible exact Below.refl _ _) | (with_reducible exact Hb.out) | (with_reducible refine K.b_bel ?_ (by assumption)) | (with_reducible refine K.b_alloc ?_ _) | (with_reducible refine K.b_drewN ?_ _) | (with_reducible refine K.b_drew ?_) | (with_reducible refine K.b_set ?_ (by first | omega | (simp <;> omega)) _) | (with_reducible refine K.b_only ?_ (by assumption) (by first | omega | (simp <;> omega)))))
      · obtain rfl : k = more.length := by omega
        rw [List.drop_length] at HR
        have hRe : R = (0, h) := HR.out
        subst hRe
        clear HR
        go_wp2
        go_ret2
        exact ⟨_, rfl, hown, Hb.out⟩
  · have hd : (eChk l != 0) = true := by simpa using h
    rw [show rAdd l more = (eChk l, []) by unfold rAdd; rw [if_neg h]]
    generalize eChk l = er at *
    clear hr hr2 h
    go_enter Try.func20, Try.ntmps20
    go_wp2_with (first | (go_at_call 26; (with_reducible refine (GC.out _ (by repeat (first | (with_reducible exact Below.refl _ _) | (with_reducible refine K.b_bel ?_ (by assumption)) | (with_reducible refine K.b_alloc ?_ _) | (with_reducible refine K.b_drewN ?_ _) | (with_reducible refine K.b_drew ?_) | (with_reducible refine K.b_set ?_ (by first | omega | (simp <;> omega)) _) | (with_reducible refine K.b_only ?_ (by assumption) (by first | omega | (simp <;> omega)))))).mono ?_); rintro e W1 ⟨rfl, hb1⟩; obtain ⟨hB1, hC1, hF1, hZ1⟩ := K.bel_facts hb1; clear hb1))
    go_ret2
    exact TPost.bad (by repeat (first | (with_reducible exact Below.refl _ _) | (with_reducible refine K.b_bel ?_ (by assumption)) | (with_reducible refine K.b_alloc ?_ _) | (with_reducible refine K.b_drewN ?_ _) | (with_reducible refine K.b_drew ?_) | (with_reducible refine K.b_set ?_ (by first | omega | (simp <;> omega)) _) | (with_reducible refine K.b_only ?_ (by assumption) (by first | omega | (simp <;> omega)))))
end Go.Proofs.Ytmoaekjkihbicaa.Tm
