/- Histograms: the reference's Add. -/
import Derived.Test.YtimdfnhagjlkoaaHstS
set_option linter.unusedVariables false
namespace Go.Proofs.Ytimdfnhagjlkoaa.Hst
open Go.RowKit Go.Proofs.Ytimdfnhagjlkoaa
attribute [local go_sem] K.max2_int K.min2_int K.max_two K.min_two K.max_three K.min_three
set_option linter.unusedSimpArgs false
theorem neg_snoc {ns : List Int} {k : Nat} {x : Int} (h : ns[k]? = some x) (ho : Sl.anyOf neg (ns.take k) = false) (hx : neg x = false) : Sl.anyOf neg (ns.take (k + 1)) = false := by
  obtain ⟨hk, he⟩ := List.getElem?_eq_some_iff.1 h
  rw [List.take_succ_eq_append_getElem hk, he]
  unfold Sl.anyOf at *
  simp [ho, hx]
theorem neg_hit {ns : List Int} {k : Nat} {x : Int} (h : ns[k]? = some x) (hx : x < 0) : Sl.anyOf neg ns = true := by
  unfold Sl.anyOf
  rw [List.any_eq_true]
  exact ⟨x, List.mem_of_getElem? h, by simp [neg, hx]⟩
theorem eAdd_4 {xs : List Int} {t : Int} {ns : List Int} (h : HOk xs t) (hn : Sl.anyOf neg ns = true) : eAdd xs t ns = 4 := by unfold eAdd; rw [if_pos h, if_pos hn]
theorem eAdd_72 {xs : List Int} {t : Int} {ns : List Int} (h : HOk xs t) (hn : Sl.anyOf neg ns = false) (ht : 1073741824 - (ns.length : Int) < t) : eAdd xs t ns = 72 := by unfold eAdd; rw [if_pos h, if_neg (by simp [hn]), if_pos ht]
set_option maxRecDepth 100000 in
set_option maxHeartbeats 8000000 in
theorem rAdd_c (xs : List Int) (t : Int) (ns : List Int) (A B : Option Addr) (n c m d : Nat) (w : World) (hr : Sl.Rds w 1 A n (xs.flatMap I1)) (hs : Sl.Rds w 1 B m (ns.flatMap I1)) :
    Calls Try.prog 38 #[.agg #[.slice A n c, .int .i64 t], .slice B m d] w fun e w' =>
      (eAdd xs t ns ≠ 0 → e = .returned (.tuple #[.agg #[.slice none 0 0, .int .i64 0], .int .i64 (eAdd xs t ns)]) ∧ Below w.heap.size w w') ∧ (eAdd xs t ns = 0 → AddsPost w (adds (pad xs) ns) (t + ns.length) e w') := by
  obtain rfl := hr.length (fun _ => rfl) (by omega)
  obtain rfl := hs.length (fun _ => rfl) (by omega)
  have hle := hr.le
  have hle2 := hs.le
  have Hr := K.H.mk hr
  have Hs := K.H.mk hs
  have GC := K.H.mk (fun (W : World) (hb : Below w.heap.size w W) => rCheck_c xs t A _ c W (Hr.out.below hb))
  clear hr hs
  by_cases hok : HOk xs t
  · have ht0 := hok_in hok
    have Hok := K.H.mk hok
    rw [ck_0 hok] at GC
    have GO := K.H.mk (fun (W : World) (hb : Below w.heap.size w W) => rown_c xs t A _ c W (Hr.out.below hb) hok.1)
    clear hok
    go_enter Try.func38, Try.ntmps38
    go_wp2_with (first | (go_at_call 43; (with_reducible refine (GC.out _ (by repeat (first | (with_reducible exact Below.refl _ _) | (with_reducible refine K.b_bel ?_ (by assumption)) | (with_reducible refine K.b_alloc ?_ _) | (with_reducible refine K.b_drewN ?_ _) | (with_reducible refine K.b_drew ?_) | (with_reducible refine K.b_set ?_ (by first | omega | (simp <;> omega)) _) | (with_reducible refine K.b_only ?_ (by assumption) (by first | omega | (simp <;> omega)))))).mono ?_); rintro e W1 ⟨rfl, hb1⟩; obtain ⟨hB1, hC1, hF1, hZ1⟩ := K.bel_facts hb1; clear hb1; have hZZ := hZ1; (try simp at hZZ); have hz1_0 : w.heap.size < W1.heap.size := (by omega); have hz1_1 : w.heap.size + 1 < W1.heap.size := (by omega); clear hZZ))
    refine K.wp_gen (fun W => K.At W w.heap.size 54 #[.slice A xs.length c, .int .i64 t] ∧ K.At W (w.heap.size + 1) 54 #[.slice none 0 0, .int .i64 0] ∧ Below w.heap.size w W) ⟨(by refine K.At.cast (by repeat (first | (with_reducible refine K.At.new' _ _ _ _ (by first | rfl | (simp; done) | omega)) | (with_reducible apply K.At.over hB1) | (with_reducible apply K.At.set) | (with_reducible apply K.At.alloc) | (with_reducible apply K.At.drewN) | (with_reducible apply K.At.drew) | (with_reducible apply K.At.far) | omega | (simp <;> omega))) ?_; rfl), (by refine K.At.cast (by repeat (first | (with_reducible refine K.At.new' _ _ _ _ (by first | rfl | (simp; done) | omega)) | (with_reducible apply K.At.over hB1) | (with_reducible apply K.At.set) | (with_reducible apply K.At.alloc) | (with_reducible apply K.At.drewN) | (with_reducible apply K.At.drew) | (with_reducible apply K.At.far) | omega | (simp <;> omega))) ?_; rfl), (by repeat (first | (with_reducible exact Below.refl _ _) | (with_reducible refine K.b_bel ?_ (by assumption)) | (with_reducible refine K.b_alloc ?_ _) | (with_reducible refine K.b_drewN ?_ _) | (with_reducible refine K.b_drew ?_) | (with_reducible refine K.b_set ?_ (by first | omega | (simp <;> omega)) _) | (with_reducible refine K.b_only ?_ (by assumption) (by first | omega | (simp <;> omega)))))⟩ ?_
    rintro W2 ⟨hH, hZ, hb2⟩
    have Hb2 := K.H.mk hb2
    obtain ⟨hc5, hf5, hl5⟩ := K.At.facts hH
    obtain ⟨hc6, hf6, hl6⟩ := K.At.facts hZ
    clear hb2 GC
    ((try clear hC1); (try clear hF1); (try clear hZ1); (try clear hc1); (try clear hf1); (try clear hl1); (try clear hB1); (try clear hO1); (try clear hA1); (try clear hz1_0); (try clear hz1_1); (try clear hz1_2); (try clear hz1_3))
    go_loop [6] (fun i => ∃ k : Nat, k ≤ ns.length ∧ i = .int .i64 k ∧ K.H (Sl.anyOf neg (ns.take k) = false)) (fun i => ns.length - (intOf i).toNat)
    case atStart => exact ⟨0, by omega, rfl, ⟨rfl⟩⟩
    case round =>
      obtain ⟨k, hk, rfl, Ho⟩ := hrel
      by_cases hlt : k < ns.length
      · obtain ⟨x, hx⟩ : ∃ x, ns[k]? = some x := ⟨_, List.getElem?_eq_getElem hlt⟩
        obtain ⟨b9, off9, rfl, hbl9, hbc9⟩ := Sl.Rds.elem Hs.out (enc := fun n => [.int .i64 n]) (fun _ => rfl) (by omega) hx
        have q9_0 : W2.cell? ⟨b9, off9 + k, none⟩ = some (.int .i64 x) := by
          have := (Hb2.out.cell (p := ⟨b9, off9 + k * 1 + 0, none⟩) hbl9).trans (hbc9 0 (by omega))
          simpa using this
        have hbw9 : b9 < W2.heap.size := Nat.lt_of_lt_of_le hbl9 Hb2.out.size
        have Hx := K.H.mk hx
        clear hx hbc9
        by_cases h1 : x < 0
        · have d1 : decide (x < 0) = true := decide_eq_true h1
          have E := K.H.mk (eAdd_4 Hok.out (neg_hit Hx.out h1))
          clear h1
          go_wp2
          ((try simp only [Exit.inBlock, Exit.then]); refine bodyPost_ret (v := .tuple #[.agg #[.slice none 0 0, .int .i64 0], .int .i64 4]) (by simp only [results, Try.results38]; go_simp) rfl ?_)
          exact ⟨fun _ => ⟨by rw [E.out], (by repeat (first | (with_reducible exact Below.refl _ _) | (with_reducible exact Hb2.out) | (with_reducible refine K.b_bel ?_ (by assumption)) | (with_reducible refine K.b_alloc ?_ _) | (with_reducible refine K.b_drewN ?_ _) | (with_reducible refine K.b_drew ?_) | (with_reducible refine K.b_set ?_ (by first | omega | (simp <;> omega)) _) | (with_reducible refine K.b_only ?_ (by assumption) (by first | omega | (simp <;> omega)))))⟩, fun h => by have := E.out; omega⟩
        · have d1 : decide (x < 0) = false := decide_eq_false h1
          have Ho2 := K.H.mk (neg_snoc Hx.out Ho.out (by simp [neg]; omega))
          clear h1
          go_wp2
          go_round
          case rel => exact ⟨k + 1, by omega, by go_num, Ho2⟩
          case measure => simp [intOf]; omega
      · obtain rfl : k = ns.length := by omega
        have hn := Ho.out
        rw [List.take_length] at hn
        have Hn := K.H.mk hn
        clear Ho hn
        by_cases h2 : 1073741824 - (ns.length : Int) < t
        · have d2 : decide (1073741824 - (ns.length : Int) < t) = true := decide_eq_true h2
          have E := K.H.mk (eAdd_72 Hok.out Hn.out h2)
          clear h2
          go_wp2
          ((try simp only [Exit.inBlock, Exit.then]); refine bodyPost_ret (v := .tuple #[.agg #[.slice none 0 0, .int .i64 0], .int .i64 72]) (by simp only [results, Try.results38]; go_simp) rfl ?_)
          exact ⟨fun _ => ⟨by rw [E.out], (by repeat (first | (with_reducible exact Below.refl _ _) | (with_reducible exact Hb2.out) | (with_reducible refine K.b_bel ?_ (by assumption)) | (with_reducible refine K.b_alloc ?_ _) | (with_reducible refine K.b_drewN ?_ _) | (with_reducible refine K.b_drew ?_) | (with_reducible refine K.b_set ?_ (by first | omega | (simp <;> omega)) _) | (with_reducible refine K.b_only ?_ (by assumption) (by first | omega | (simp <;> omega)))))⟩, fun h => by have := E.out; omega⟩
        · have d2 : decide (1073741824 - (ns.length : Int) < t) = false := decide_eq_false h2
          have E := K.H.mk (eAdd_0 Hok.out Hn.out (by omega))
          have HF := K.H.mk (fun k hk hk2 => full_adds (full_pad Hok.out) (fun n hm => by have := Sl.anyOf_false Hn.out n hm; simpa [neg] using this) k hk hk2 : ∀ k, k ≤ ns.length → t + k ≤ 1073741824 → Full (adds (pad xs) (ns.take k)) (t + k))
          go_wp2_with (go_at_call 58; (with_reducible refine (GO.out _ (by repeat (first | (with_reducible exact Below.refl _ _) | (with_reducible exact Hb2.out) | (with_reducible refine K.b_bel ?_ (by assumption)) | (with_reducible refine K.b_alloc ?_ _) | (with_reducible refine K.b_drewN ?_ _) | (with_reducible refine K.b_drew ?_) | (with_reducible refine K.b_set ?_ (by first | omega | (simp <;> omega)) _) | (with_reducible refine K.b_only ?_ (by assumption) (by first | omega | (simp <;> omega)))))).mono ?_); rintro e W3 ⟨R, rfl, hR0, hR3, hb3⟩; have HB3 := K.H.mk hb3; clear hb3)
          refine K.wp_gen (fun W => ∃ P, P = W3.heap.size ∧ K.At W P 54 #[.slice (some ⟨R, 0, none⟩) 81 81, .int .i64 t] ∧ K.At W R 3 (vals (pad xs)) ∧ Below W2.heap.size W2 W) ⟨_, rfl, K.At.new _ _ _, hR3.alloc _, HB3.out.trans ((K.b_alloc (Below.refl _ _) _).mono HB3.out.size)⟩ ?_
          rintro W4 ⟨P, hPe, hP4, hR4, hb4⟩
          have HB4 := K.H.mk hb4
          have hPR : P ≠ R := by have := hR3.lt; omega
          have hP0 : W2.heap.size ≤ P := by have := HB3.out.size; omega
          rw [← hPe]
          have hsz2 := hZ.lt
          clear hb4 hPe hR3 HB3 d2
          clear GO
          go_loopw [8] (fun i wr => ∃ k : Nat, k ≤ ns.length ∧ i = .int .i64 k ∧ K.At wr P 54 #[.slice (some ⟨R, 0, none⟩) 81 81, .int .i64 (t + k)] ∧ K.At wr R 3 (vals (adds (pad xs) (ns.take k))) ∧ K.H (Below W2.heap.size W2 wr)) (fun i _ => ns.length - (intOf i).toNat)
          case atStart => exact ⟨0, by omega, rfl, hP4.cast (by simp), hR4.cast (by simp [adds]), HB4⟩
          case round =>
            clear hP4 hR4 HB4
            obtain ⟨k, hk, rfl, hP, hR, Hb⟩ := hrel
            have hb0 : Below w.heap.size w wr := Hb2.out.trans (Hb.out.mono Hb2.out.size)
            by_cases hlt : k < ns.length
            · obtain ⟨x, hx⟩ : ∃ x, ns[k]? = some x := ⟨_, List.getElem?_eq_getElem hlt⟩
              have hx0 : 0 ≤ x := by have := Sl.anyOf_false Hn.out x (List.mem_of_getElem? hx); simpa [neg] using this
              have hbk := bk_in hx0
              obtain ⟨y, hy, hyg, hy0, hy1, hf⟩ := full_inc (HF.out k hk (by omega)) hbk.2 (by omega)
              have hat := adds_take (pad xs) hx
              have Hat := K.H.mk (show adds (pad xs) (ns.take (k + 1)) = (adds (pad xs) (ns.take k)).set (bk x) (y + 1) by rw [hat]; unfold inc; rw [hyg])
              obtain ⟨b9, off9, rfl, hbl9, hbc9⟩ := Sl.Rds.elem Hs.out (enc := fun n => [.int .i64 n]) (fun _ => rfl) (by omega) hx
              have q9_0 : wr.cell? ⟨b9, off9 + k, none⟩ = some (.int .i64 x) := by
                have := (hb0.cell (p := ⟨b9, off9 + k * 1 + 0, none⟩) hbl9).trans (hbc9 0 (by omega))
                simpa using this
              have hbw9 : b9 < wr.heap.size := Nat.lt_of_lt_of_le hbl9 hb0.size
              have GX := K.H.mk (fun W => rBucket_c x W)
              rw [show eBkt x = 0 by unfold eBkt; rw [if_neg (by omega)], show oBkt x = bk x by unfold oBkt; rw [if_neg (by omega), hbk.1]] at GX
              have hj81 : (bk x : Int) < 81 := by omega
              have hcR : wr.cell? ⟨R, bk x, none⟩ = some (.int .i64 y) := by rw [hR.cell]; exact vals_get hy
              have hfR := hR.frozen
              have hlR := hR.lt
              have Hb0 := K.H.mk hb0
              obtain ⟨hc8, hf8, hl8⟩ := K.At.facts hP
              clear hx hbc9 hat hyg hf hy hbk hb0
              generalize bk x = j at *
              go_wp2_with (first | (go_at_call 34; (with_reducible refine (GX.out _).mono ?_); rintro e w' ⟨rfl, hw'⟩; have hw'2 := Eq.symm hw'; clear hw'; subst hw'2))
              go_roundw
              case rel =>
                refine ⟨k + 1, by omega, by go_num, ?_, ?_, ⟨?_⟩⟩
                · exact ((hP.far (p := ⟨R, j, none⟩) hPR _).set 1 _).cast (by rw [show t + ((k + 1 : Nat) : Int) = t + k + 1 by omega]; rfl)
                · exact ((hR.set j _).far (p := ⟨P, 1, none⟩) (Ne.symm hPR) _).cast (by rw [vals_set, Hat.out])
                · exact (Hb.out.setCell (p := ⟨R, j, none⟩) (by simp only; omega) _).setCell (p := ⟨P, 1, none⟩) hP0 _
              case measure => simp [intOf]; omega
            · obtain rfl : k = ns.length := by omega
              rw [List.take_length] at hR
              have hZ2 : K.At wr (w.heap.size + 1) 54 #[.slice none 0 0, .int .i64 0] := ⟨(Hb.out.block _ hsz2).trans hZ.out⟩
              have Hw := K.H.mk hb0
              obtain ⟨hc8, hf8, hl8⟩ := K.At.facts hP
              obtain ⟨hc7, hf7, hl7⟩ := K.At.facts hZ2
              have hwR : w.heap.size + 1 ≠ R := by omega
              have hRl : w.heap.size ≤ R := by omega
              clear hb0
              go_wp2
              ((try simp only [Exit.inBlock, Exit.then]); refine bodyPost_ret (v := .tuple #[.agg #[.slice (some ⟨R, 0, none⟩) 81 81, .int .i64 (t + ns.length)], .int .i64 0]) (by simp only [results, Try.results38]; go_simp) rfl ?_)
              exact ⟨fun h => absurd E.out h, fun _ => ⟨R, rfl, hRl, (by refine K.At.cast (by repeat (first | (with_reducible exact hR) | (with_reducible refine K.At.new' _ _ _ _ (by first | rfl | (simp; done) | omega)) | (with_reducible apply K.At.set) | (with_reducible apply K.At.alloc) | (with_reducible apply K.At.drewN) | (with_reducible apply K.At.drew) | (with_reducible apply K.At.far) | omega | (simp <;> omega))) ?_; rfl), (by repeat (first | (with_reducible exact Below.refl _ _) | (with_reducible exact Hw.out) | (with_reducible refine K.b_bel ?_ (by assumption)) | (with_reducible refine K.b_alloc ?_ _) | (with_reducible refine K.b_drewN ?_ _) | (with_reducible refine K.b_drew ?_) | (with_reducible refine K.b_set ?_ (by first | omega | (simp <;> omega)) _) | (with_reducible refine K.b_only ?_ (by assumption) (by first | omega | (simp <;> omega)))))⟩⟩
  · rw [ck_9 hok] at GC
    have E := K.H.mk (show eAdd xs t ns = 9 by unfold eAdd; rw [if_neg hok])
    clear hok
    go_enter Try.func38, Try.ntmps38
    go_wp2_with (first | (go_at_call 43; (with_reducible refine (GC.out _ (by repeat (first | (with_reducible exact Below.refl _ _) | (with_reducible refine K.b_bel ?_ (by assumption)) | (with_reducible refine K.b_alloc ?_ _) | (with_reducible refine K.b_drewN ?_ _) | (with_reducible refine K.b_drew ?_) | (with_reducible refine K.b_set ?_ (by first | omega | (simp <;> omega)) _) | (with_reducible refine K.b_only ?_ (by assumption) (by first | omega | (simp <;> omega)))))).mono ?_); rintro e W1 ⟨rfl, hb1⟩; obtain ⟨hB1, hC1, hF1, hZ1⟩ := K.bel_facts hb1; clear hb1; have hZZ := hZ1; (try simp at hZZ); have hz1_0 : w.heap.size < W1.heap.size := (by omega); have hz1_1 : w.heap.size + 1 < W1.heap.size := (by omega); clear hZZ; have hP1 : K.At W1 (w.heap.size + 1) 54 #[.slice none 0 0, .int .i64 0] := (by refine K.At.cast (by repeat (first | (with_reducible refine K.At.new' _ _ _ _ (by first | rfl | (simp; done) | omega)) | (with_reducible apply K.At.over hB1) | (with_reducible apply K.At.set) | (with_reducible apply K.At.alloc) | (with_reducible apply K.At.drewN) | (with_reducible apply K.At.drew) | (with_reducible apply K.At.far) | omega | (simp <;> omega))) ?_; rfl); obtain ⟨hcP, hfP, hlP⟩ := K.At.facts hP1))
    ((try simp only [Exit.inBlock, Exit.then]); refine bodyPost_ret (v := .tuple #[.agg #[.slice none 0 0, .int .i64 0], .int .i64 9]) (by simp only [results, Try.results38]; go_simp) rfl ?_)
    exact ⟨fun _ => ⟨by rw [E.out], (by repeat (first | (with_reducible exact Below.refl _ _) | (with_reducible refine K.b_bel ?_ (by assumption)) | (with_reducible refine K.b_alloc ?_ _) | (with_reducible refine K.b_drewN ?_ _) | (with_reducible refine K.b_drew ?_) | (with_reducible refine K.b_set ?_ (by first | omega | (simp <;> omega)) _) | (with_reducible refine K.b_only ?_ (by assumption) (by first | omega | (simp <;> omega)))))⟩, fun h => by have := E.out; omega⟩
end Go.Proofs.Ytimdfnhagjlkoaa.Hst
