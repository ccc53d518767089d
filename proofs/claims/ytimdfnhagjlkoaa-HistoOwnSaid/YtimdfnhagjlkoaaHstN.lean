/- Histograms: the reference's Merge. -/
import Derived.Test.YtimdfnhagjlkoaaHstM
import Derived.BigRegion
set_option linter.unusedVariables false
namespace Go.Proofs.Ytimdfnhagjlkoaa.Hst
open Go.RowKit Go.Proofs.Ytimdfnhagjlkoaa
attribute [local go_sem] K.max2_int K.min2_int K.max_two K.min_two K.max_three K.min_three
set_option linter.unusedSimpArgs false
set_option maxRecDepth 100000 in
set_option maxHeartbeats 16000000 in
theorem rMerge_c (hs : List HV) (A : Option Addr) (n c : Nat) (w : World) (hr : Sl.Rds w 2 A n (hs.flatMap HV.cs)) (ha : ∀ h ∈ hs, HV.In w h) (hb : Sl.anyOf badH hs = false) :
    Calls Try.prog 39 #[.slice A n c] w fun e w' => (1073741824 < tall hs → e = .returned (.tuple #[.agg #[.slice none 0 0, .int .i64 0], .int .i64 72]) ∧ Below w.heap.size w w') ∧ (tall hs ≤ 1073741824 → MPost w hs e w') := by
  obtain rfl := hr.length HV.cs_len (by omega)
  have hle := hr.le
  have Hr := K.H.mk hr
  have Ha := K.H.mk ha
  have Ho := K.H.mk (fun h hm => bad_no (Sl.anyOf_false hb h hm) : ∀ h ∈ hs, HOk h.xs h.t)
  clear hr ha hb
  go_enter Try.func39, Try.ntmps39
  go_wp2
  refine K.wp_gen (fun W => K.At W w.heap.size 54 #[.slice none 0 0, .int .i64 0] ∧ Below w.heap.size w W) ⟨(by refine K.At.cast (by repeat (first | (with_reducible refine K.At.new' _ _ _ _ (by first | rfl | (simp; done) | omega)) | (with_reducible apply K.At.set) | (with_reducible apply K.At.alloc) | (with_reducible apply K.At.drewN) | (with_reducible apply K.At.drew) | (with_reducible apply K.At.far) | omega | (simp <;> omega))) ?_; rfl), (by repeat (first | (with_reducible exact Below.refl _ _) | (with_reducible refine K.b_bel ?_ (by assumption)) | (with_reducible refine K.b_alloc ?_ _) | (with_reducible refine K.b_drewN ?_ _) | (with_reducible refine K.b_drew ?_) | (with_reducible refine K.b_set ?_ (by first | omega | (simp <;> omega)) _) | (with_reducible refine K.b_only ?_ (by assumption) (by first | omega | (simp <;> omega)))))⟩ ?_
  rintro W0 ⟨hZ0, hbw0⟩
  have Hbw0 := K.H.mk hbw0
  have hz0 := hZ0.lt
  clear hbw0
  go_loopw [4] (fun i wr => ∃ k : Nat, k ≤ hs.length ∧ i = .int .i64 k ∧ K.H (Below W0.heap.size W0 wr)) (fun i _ => hs.length - (intOf i).toNat)
  case atStart => exact ⟨0, by omega, rfl, ⟨Below.refl _ _⟩⟩
  case round =>
    obtain ⟨k, hk, rfl, Hb⟩ := hrel
    have hb0 : Below w.heap.size w wr := Hbw0.out.trans (Hb.out.mono Hbw0.out.size)
    by_cases hlt : k < hs.length
    · obtain ⟨h, hx⟩ : ∃ h, hs[k]? = some h := ⟨_, List.getElem?_eq_getElem hlt⟩
      have hm := List.mem_of_getElem? hx
      have GC := K.H.mk (rCheck_c h.xs h.t h.A h.n h.c wr (HV.In.below (Ha.out h hm) hb0))
      rw [ck_0 (Ho.out h hm)] at GC
      obtain ⟨b9, off9, rfl, hbl9, hbc9⟩ := Sl.Rds.elem Hr.out HV.cs_len (by omega) hx
      have q9_0 : wr.cell? ⟨b9, off9 + k * 2, none⟩ = some (h.v) := (hb0.cell (p := ⟨b9, off9 + k * 2 + 0, none⟩) hbl9).trans (hbc9 0 (by omega))
      have q9_1 : wr.cell? ⟨b9, off9 + k * 2 + 1, none⟩ = some (.int .i64 h.t) := (hb0.cell (p := ⟨b9, off9 + k * 2 + 1, none⟩) hbl9).trans (hbc9 1 (by omega))
      clear hbc9
      have hbw9 : b9 < wr.heap.size := Nat.lt_of_lt_of_le hbl9 hb0.size
      clear hx hm hb0
      go_wp2_with (go_at_call 43; (with_reducible refine (GC.out).mono ?_); rintro e W7 ⟨rfl, hb7⟩; obtain ⟨hB7, hC7, hF7, hZ7⟩ := K.bel_facts hb7; clear hb7)
      go_roundw
      case rel => exact ⟨k + 1, by omega, by go_num, ⟨(by repeat (first | (with_reducible exact Below.refl _ _) | (with_reducible exact Hb.out) | (with_reducible refine K.b_bel ?_ (by assumption)) | (with_reducible refine K.b_alloc ?_ _) | (with_reducible refine K.b_drewN ?_ _) | (with_reducible refine K.b_drew ?_) | (with_reducible refine K.b_set ?_ (by first | omega | (simp <;> omega)) _) | (with_reducible refine K.b_only ?_ (by assumption) (by first | omega | (simp <;> omega)))))⟩⟩
      case measure => simp [intOf]; omega
    · obtain rfl : k = hs.length := by omega
      have hZ : K.At wr w.heap.size 54 #[.slice none 0 0, .int .i64 0] := ⟨(Hb.out.block _ hz0).trans hZ0.out⟩
      have Hb0 := K.H.mk hb0
      clear hb0 Hb
      obtain ⟨hc6, hf6, hl6⟩ := K.At.facts hZ
      have hz1 := hZ.lt
      go_wp2
      go_loop [5, 6, 7] (fun all sm i => ∃ k : Nat, k ≤ hs.length ∧ i = .int .i64 k ∧ all = .int .i64 (tall (hs.take k)) ∧ sm = .bool (someH (hs.take k)) ∧ tall (hs.take k) ≤ 1073741824) (fun _ _ i => hs.length - (intOf i).toNat)
      case atStart => exact ⟨0, by omega, rfl, rfl, rfl, by simp [tall]⟩
      case round =>
        obtain ⟨k, hk, rfl, rfl, rfl, htk⟩ := hrel
        by_cases hlt : k < hs.length
        · obtain ⟨h, hx⟩ : ∃ h, hs[k]? = some h := ⟨_, List.getElem?_eq_getElem hlt⟩
          have hm := List.mem_of_getElem? hx
          have ht0 := hok_in (Ho.out h hm)
          have htp := (full_mfold Ho.out k hk htk).2
          have hnl : h.xs.length = h.n := (Ha.out h hm).length (fun _ => rfl) (by omega)
          have hta : tall (hs.take (k + 1)) = tall (hs.take k) + h.t := by rw [take_snoc hx, tall_snoc]
          have Hta := K.H.mk hta
          have Hso := K.H.mk (show someH (hs.take (k + 1)) = (someH (hs.take k) || decide (0 < h.xs.length)) by rw [take_snoc hx, some_snoc])
          have Hnl := K.H.mk hnl
          obtain ⟨b9, off9, rfl, hbl9, hbc9⟩ := Sl.Rds.elem Hr.out HV.cs_len (by omega) hx
          have q9_0 : wr.cell? ⟨b9, off9 + k * 2, none⟩ = some (h.v) := (Hb0.out.cell (p := ⟨b9, off9 + k * 2 + 0, none⟩) hbl9).trans (hbc9 0 (by omega))
          have q9_1 : wr.cell? ⟨b9, off9 + k * 2 + 1, none⟩ = some (.int .i64 h.t) := (Hb0.out.cell (p := ⟨b9, off9 + k * 2 + 1, none⟩) hbl9).trans (hbc9 1 (by omega))
          clear hbc9
          have hbw9 : b9 < wr.heap.size := Nat.lt_of_lt_of_le hbl9 Hb0.out.size
          have hle9 := (Ha.out h hm).le
          by_cases hfl : 1073741824 - tall (hs.take k) < h.t
          · have hd : decide (1073741824 - tall (hs.take k) < h.t) = true := decide_eq_true hfl
            have Hc := K.H.mk (show 1073741824 < tall hs by have := tall_mono Ho.out (k + 1); omega)
            clear hfl hx hta hnl hm
            generalize tall (hs.take k) = T at *
            generalize someH (hs.take k) = sm at *
            go_wp2
            ((try simp only [Exit.inBlock, Exit.then]); refine bodyPost_ret (v := .tuple #[.agg #[.slice none 0 0, .int .i64 0], .int .i64 72]) (by simp only [results, Try.results39]; go_simp) rfl ?_)
            exact ⟨fun _ => ⟨rfl, (by repeat (first | (with_reducible exact Below.refl _ _) | (with_reducible exact Hb0.out) | (with_reducible refine K.b_bel ?_ (by assumption)) | (with_reducible refine K.b_alloc ?_ _) | (with_reducible refine K.b_drewN ?_ _) | (with_reducible refine K.b_drew ?_) | (with_reducible refine K.b_set ?_ (by first | omega | (simp <;> omega)) _) | (with_reducible refine K.b_only ?_ (by assumption) (by first | omega | (simp <;> omega)))))⟩, fun hc => by have := Hc.out; omega⟩
          · have hd : decide (1073741824 - tall (hs.take k) < h.t) = false := decide_eq_false hfl
            have Hfl := K.H.mk (show tall (hs.take k) + h.t ≤ 1073741824 by omega)
            clear hx hta hnl hm
            generalize tall (hs.take k) = T at *
            cases hsm : someH (hs.take k)
            · rw [hsm] at Hso
              by_cases hn0 : 0 < h.n
              · have hd2 : decide (0 < h.n) = true := decide_eq_true hn0
                have hd3 : decide ((0 : Int) < (h.n : Int)) = true := decide_eq_true (by omega)
                have Hs1 := K.H.mk (show someH (hs.take (k + 1)) = true by rw [Hso.out, Bool.false_or, decide_eq_true (by have := Hnl.out; omega)])
                clear hsm hfl
                go_wp2
                go_round
                case rel => exact ⟨k + 1, by omega, by go_num, by rw [Hta.out], by rw [Hs1.out], by have := Hfl.out; rw [Hta.out]; omega⟩
                case measure => simp [intOf]; omega
              · have hd2 : decide (0 < h.n) = false := decide_eq_false hn0
                have hd3 : decide ((0 : Int) < (h.n : Int)) = false := decide_eq_false (by omega)
                have Hs1 := K.H.mk (show someH (hs.take (k + 1)) = false by rw [Hso.out, Bool.false_or, decide_eq_false (by have := Hnl.out; omega)])
                clear hsm hfl
                go_wp2
                go_round
                case rel => exact ⟨k + 1, by omega, by go_num, by rw [Hta.out], by rw [Hs1.out], by have := Hfl.out; rw [Hta.out]; omega⟩
                case measure => simp [intOf]; omega
            · rw [hsm] at Hso
              clear hsm hfl
              go_wp2
              go_round
              case rel => exact ⟨k + 1, by omega, by go_num, by rw [Hta.out], by rw [Hso.out]; rfl, by have := Hfl.out; rw [Hta.out]; omega⟩
              case measure => simp [intOf]; omega
        · obtain rfl : k = hs.length := by omega
          rw [List.take_length] at *
          have Htk := K.H.mk htk
          clear htk
          cases hsm : someH hs
          · have Hso := K.H.mk hsm
            clear hsm
            go_wp2
            ((try simp only [Exit.inBlock, Exit.then]); refine bodyPost_ret (v := .tuple #[.agg #[.slice none 0 0, .int .i64 0], .int .i64 0]) (by simp only [results, Try.results39]; go_simp) rfl ?_)
            exact ⟨fun hc => by have := Htk.out; omega, fun _ => ⟨fun _ => ⟨rfl, (by repeat (first | (with_reducible exact Below.refl _ _) | (with_reducible exact Hb0.out) | (with_reducible refine K.b_bel ?_ (by assumption)) | (with_reducible refine K.b_alloc ?_ _) | (with_reducible refine K.b_drewN ?_ _) | (with_reducible refine K.b_drew ?_) | (with_reducible refine K.b_set ?_ (by first | omega | (simp <;> omega)) _) | (with_reducible refine K.b_only ?_ (by assumption) (by first | omega | (simp <;> omega)))))⟩, fun hc => by have := Hso.out; rw [hc] at this; cases this⟩⟩
          · have Hso := K.H.mk hsm
            clear hsm
            have GO := K.H.mk (fun (W : World) => rown_c [] (tall hs) none 0 0 W (Sl.Rds.nil _ _ _) (.inl rfl))
            go_wp2_with (go_at_call 58; (with_reducible refine (GO.out _).mono ?_); rintro e W3 ⟨R, rfl, hR0, hR3, hb3⟩; have HB3 := K.H.mk hb3; clear hb3)
            refine K.wp_gen (fun W => ∃ P, P = W3.heap.size ∧ K.At W P 54 #[.slice (some ⟨R, 0, none⟩) 81 81, .int .i64 (tall hs)] ∧ K.At W R 3 (vals (pad [])) ∧ Below wr.heap.size wr W) ⟨_, rfl, K.At.new _ _ _, hR3.alloc _, HB3.out.trans ((K.b_alloc (Below.refl _ _) _).mono HB3.out.size)⟩ ?_
            rintro W4 ⟨P, hPe, hP4, hR4, hb4⟩
            have HB4 := K.H.mk hb4
            have hPR : P ≠ R := by have := hR3.lt; omega
            have hP0 : wr.heap.size ≤ P := by have := HB3.out.size; omega
            rw [← hPe]
            have hZw := hZ
            clear hb4 hPe hR3 HB3 GO
            obtain ⟨W1, hW1⟩ : ∃ W1, W1 = wr := ⟨_, rfl⟩
            subst hW1
            go_loopw [9] (fun i wr => ∃ k : Nat, k ≤ hs.length ∧ i = .int .i64 k ∧ K.At wr P 54 #[.slice (some ⟨R, 0, none⟩) 81 81, .int .i64 (tall hs)] ∧ K.At wr R 3 (vals (mfold (hs.take k))) ∧ K.H (Below W1.heap.size W1 wr)) (fun i _ => hs.length - (intOf i).toNat)
            case atStart => exact ⟨0, by omega, rfl, hP4, hR4.cast (by simp [mfold]), HB4⟩
            case round =>
              clear hP4 hR4 HB4
              obtain ⟨k, hk, rfl, hP, hR, Hb⟩ := hrel
              have hb0 : Below w.heap.size w wr := Hb0.out.trans (Hb.out.mono Hb0.out.size)
              by_cases hlt : k < hs.length
              · obtain ⟨h, hx⟩ : ∃ h, hs[k]? = some h := ⟨_, List.getElem?_eq_getElem hlt⟩
                have hm := List.mem_of_getElem? hx
                have Hok := K.H.mk (Ho.out h hm)
                have Hin := K.H.mk (Ha.out h hm)
                have ht0 := hok_in Hok.out
                have hta : tall (hs.take (k + 1)) = tall (hs.take k) + h.t := by rw [take_snoc hx, tall_snoc]
                have htm := tall_mono Ho.out (k + 1)
                have htl : tall (hs.take k) + h.t ≤ 1073741824 := by have := Htk.out; omega
                have HFV := K.H.mk (fun j hj => full_vto (full_mfold Ho.out k hk (by omega)).1 Hok.out htl j hj : ∀ j, j ≤ h.xs.length → Full (vto (mfold (hs.take k)) h.xs j) (tall (hs.take k) + (h.xs.take j).sum))
                have htp := (full_mfold Ho.out k hk (by omega)).2
                have Hnl := K.H.mk (show h.xs.length = h.n from Hin.out.length (fun _ => rfl) (by omega))
                have Hmf := K.H.mk (show mfold (hs.take (k + 1)) = vto (mfold (hs.take k)) h.xs h.xs.length by rw [take_snoc hx, mfold_snoc])
                have hl81 : h.xs.length ≤ 81 := by have := Hok.out.1; omega
                have hle9 := Hin.out.le
                have Hx := K.H.mk hx
                have hkn := hlt
                have hks : (k : Int) < hs.length := by omega
                clear hx hm hta htm
                generalize tall (hs.take k) = T at *
                go_wp2
                go_loopw [10] (fun i wq => ∃ j : Nat, j ≤ h.xs.length ∧ i = .int .i64 j ∧ K.At wq P 54 #[.slice (some ⟨R, 0, none⟩) 81 81, .int .i64 (tall hs)] ∧ K.At wq R 3 (vals (vto (mfold (hs.take k)) h.xs j)) ∧ K.H (Below W1.heap.size W1 wq)) (fun i _ => h.xs.length - (intOf i).toNat)
                case atStart => exact ⟨0, by omega, rfl, hP, hR, Hb⟩
                case round =>
                  clear hP hR Hb hb0
                  obtain ⟨j, hj, rfl, hP, hR, Hb⟩ := hrel
                  have hb0 : Below w.heap.size w wr := Hb0.out.trans (Hb.out.mono Hb0.out.size)
                  have hx := Hx.out
                  obtain ⟨b9, off9, rfl, hbl9, hbc9⟩ := Sl.Rds.elem Hr.out HV.cs_len (by omega) hx
                  have q9_0 : wr.cell? ⟨b9, off9 + k * 2, none⟩ = some (h.v) := (hb0.cell (p := ⟨b9, off9 + k * 2 + 0, none⟩) hbl9).trans (hbc9 0 (by omega))
                  have q9_1 : wr.cell? ⟨b9, off9 + k * 2 + 1, none⟩ = some (.int .i64 h.t) := (hb0.cell (p := ⟨b9, off9 + k * 2 + 1, none⟩) hbl9).trans (hbc9 1 (by omega))
                  clear hbc9
                  have hbw9 : b9 < wr.heap.size := Nat.lt_of_lt_of_le hbl9 hb0.size
                  clear hx
                  by_cases hlj : j < h.xs.length
                  · obtain ⟨x, hx⟩ : ∃ x, h.xs[j]? = some x := ⟨_, List.getElem?_eq_getElem hlj⟩
                    have hg : h.xs.getD j 0 = x := by rw [List.getD_eq_getElem?_getD, hx]; rfl
                    have hx0 := le_sum Hok.out.2.1 hx
                    have hsm := sum_mono Hok.out.2.1 (j := j + 1) (k := h.xs.length) (by omega)
                    rw [List.take_length, Hok.out.2.2.1, sum_take hx] at hsm
                    have hf := HFV.out j hj
                    obtain ⟨y, hy, hyg, hy0, hy1, _⟩ := full_set hf (k := j) (by omega) hx0.1 (by omega)
                    have Hv := K.H.mk (show vto (mfold (hs.take k)) h.xs (j + 1) = (vto (mfold (hs.take k)) h.xs j).set j (y + x) by simp only [vto]; rw [hyg, hg])
                    obtain ⟨b2, off2, he2, hbl2, hbc2⟩ := Sl.Rds.elem (Hin.out) (enc := I1) (fun _ => rfl) (by omega) hx
                    replace q9_0 := q9_0.trans (show some h.v = some (Value.slice (some ⟨b2, off2, none⟩) h.n h.c) by rw [← he2])
                    have q2_0 : wr.cell? ⟨b2, off2 + j, none⟩ = some (.int .i64 x) := by
                      have := (hb0.cell (p := ⟨b2, off2 + j * 1 + 0, none⟩) hbl2).trans (hbc2 0 (by omega))
                      simpa using this
                    have hbw2 : b2 < wr.heap.size := Nat.lt_of_lt_of_le hbl2 hb0.size
                    have hjn : (j : Int) < h.n := by have := Hnl.out; omega
                    have hjm : j < h.n := by omega
                    have hj81 : (j : Int) < 81 := by omega
                    have hcR : wr.cell? ⟨R, j, none⟩ = some (.int .i64 y) := by rw [hR.cell]; exact vals_get hy
                    have hfR := hR.frozen
                    have hlR := hR.lt
                    have hwz : IntKind.i64.wrap (y + x) = y + x := K.i64_in (by omega) (by omega)
                    have hwz2 : wrap64 (y + x) = y + x := by simp only [wrap64]; omega
                    have hRg : W1.heap.size ≤ R := by omega
                    obtain ⟨hc8, hf8, hl8⟩ := K.At.facts hP
                    have Hb02 := K.H.mk hb0
                    clear hx hg hf hyg hy hbc2 he2 hsm hb0
                    go_wp2
                    go_region
                    all_goals go_wp2
                    all_goals go_roundw
                    case rel => exact ⟨j + 1, by omega, by go_num, (hP.far (p := ⟨R, j, none⟩) hPR _).drew, ((hR.set j (.int .i64 (y + x))).cast (by rw [vals_set, Hv.out])).drew, ⟨K.b_drew (Hb.out.setCell (p := ⟨R, j, none⟩) hRg _)⟩⟩
                    case measure => simp [intOf]; omega
                  · obtain rfl : j = h.xs.length := by omega
                    have hje : ¬ h.xs.length < h.n := by have := Hnl.out; omega
                    have hje2 : h.n ≤ h.xs.length := by have := Hnl.out; omega
                    have hje3 : (h.n : Int) ≤ h.xs.length := by omega
                    clear hb0
                    go_wp2
                    go_roundw
                    case rel => exact ⟨k + 1, by omega, by go_num, hP, hR.cast (by rw [Hmf.out]), Hb⟩
                    case measure => simp [intOf]; omega
              · obtain rfl : k = hs.length := by omega
                rw [List.take_length] at hR
                have hZ2 : K.At wr w.heap.size 54 #[.slice none 0 0, .int .i64 0] := ⟨(Hb.out.block _ hz1).trans hZw.out⟩
                have Hw := K.H.mk hb0
                obtain ⟨hc8, hf8, hl8⟩ := K.At.facts hP
                obtain ⟨hc7, hf7, hl7⟩ := K.At.facts hZ2
                have hwR : w.heap.size ≠ R := by omega
                have hRl : w.heap.size ≤ R := by omega
                clear hb0
                go_wp2
                ((try simp only [Exit.inBlock, Exit.then]); refine bodyPost_ret (v := .tuple #[.agg #[.slice (some ⟨R, 0, none⟩) 81 81, .int .i64 (tall hs)], .int .i64 0]) (by simp only [results, Try.results39]; go_simp) rfl ?_)
                exact ⟨fun hc => by have := Htk.out; omega, fun _ => ⟨fun hc => (by have := Hso.out; rw [hc] at this; cases this), fun _ => ⟨R, rfl, hRl, (by refine K.At.cast (by repeat (first | (with_reducible exact hR) | (with_reducible refine K.At.new' _ _ _ _ (by first | rfl | (simp; done) | omega)) | (with_reducible apply K.At.set) | (with_reducible apply K.At.alloc) | (with_reducible apply K.At.drewN) | (with_reducible apply K.At.drew) | (with_reducible apply K.At.far) | omega | (simp <;> omega))) ?_; rfl), (by repeat (first | (with_reducible exact Below.refl _ _) | (with_reducible exact Hw.out) | (with_reducible refine K.b_bel ?_ (by assumption)) | (with_reducible refine K.b_alloc ?_ _) | (with_reducible refine K.b_drewN ?_ _) | (with_reducible refine K.b_drew ?_) | (with_reducible refine K.b_set ?_ (by first | omega | (simp <;> omega)) _) | (with_reducible refine K.b_only ?_ (by assumption) (by first | omega | (simp <;> omega)))))⟩⟩⟩
end Go.Proofs.Ytimdfnhagjlkoaa.Hst
