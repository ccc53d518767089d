/- Timer: Check. -/
import Derived.Test.YtmoaekjkihbicaaTm2
set_option linter.unusedVariables false
namespace Go.Proofs.Ytmoaekjkihbicaa.Tm
open Go.RowKit Go.Proofs.Ytmoaekjkihbicaa
attribute [local go_sem] run_makeMap
set_option linter.unusedSimpArgs false
theorem wf_id {x : Tm} (h : x.odd = false) : (Lit.int .i64 x.id).wf = true := by
  have := odd_f h
  simp [Lit.wf, IntKind.min, IntKind.max, IntKind.bits, IntKind.signed]; omega
theorem eChk_6 {l : List Tm} (h1 : ¬ 1024 < l.length) (h2 : Sl.anyOf Tm.odd l = false) (h3 : ¬ (l.map Tm.id).Nodup) : eChk l = 6 := by
  unfold eChk; rw [if_neg h1, if_neg (by rw [h2]; simp), if_pos h3]
theorem eChk_9 {l : List Tm} (h1 : ¬ 1024 < l.length) (h2 : Sl.anyOf Tm.odd l = false) (h3 : (l.map Tm.id).Nodup) (h4 : ¬ isHeap l) : eChk l = 9 := by
  unfold eChk; rw [if_neg h1, if_neg (by rw [h2]; simp), if_neg (by simpa using h3), if_neg h4]
theorem eChk_0 {l : List Tm} (h1 : ¬ 1024 < l.length) (h2 : Sl.anyOf Tm.odd l = false) (h3 : (l.map Tm.id).Nodup) (h4 : isHeap l) : eChk l = 0 := by
  unfold eChk; rw [if_neg h1, if_neg (by rw [h2]; simp), if_neg (by simpa using h3), if_pos h4]
theorem not_nodup {l : List Tm} {k : Nat} {x : Tm} (hx : l[k]? = some x) (h : x.id ∈ (l.take k).map Tm.id) : ¬ (l.map Tm.id).Nodup := by
  intro hn
  have e : l = l.take k ++ l.drop k := (List.take_append_drop k l).symm
  rw [e, List.map_append] at hn
  have h1 := (List.nodup_append.1 hn).2.2 x.id h x.id (by
    obtain ⟨h2, rfl⟩ := List.getElem?_eq_some_iff.1 hx
    exact List.mem_map.2 ⟨l[k], by rw [List.drop_eq_getElem_cons h2]; exact List.mem_cons_self .., rfl⟩)
  exact h1 rfl
set_option maxRecDepth 100000 in
set_option maxHeartbeats 8000000 in
theorem Check_c (l : List Tm) (A : Option Addr) (n c : Nat) (w : World) (hr : Sl.Rds w 2 A n (l.flatMap Tm.cs)) :
    Calls Try.prog 16 #[.slice A n c] w fun e w' => e = .returned (.int .i64 (eChk l)) ∧ Below w.heap.size w w' := by
  obtain rfl := hr.length Tm.cs_len (by omega)
  have hle := hr.le
  have GA := K.H.mk (fun (W : World) (hb : Below w.heap.size w W) => anyOdd_c l A l.length c W (hr.below hb))
  have Hr := K.H.mk hr
  obtain ⟨E, hE⟩ : ∃ E, E = eChk l := ⟨_, rfl⟩
  have HE := K.H.mk hE
  rw [← hE]
  clear hr hE
  by_cases h1 : 1024 < l.length
  · have hd : decide ((1024 : Int) < (l.length : Int)) = true := decide_eq_true (by omega)
    have he : E = 3 := by rw [HE.out]; unfold eChk; rw [if_pos h1]
    subst he
    clear h1
    go_enter Try.func16, Try.ntmps16
    go_wp2
    go_ret
    exact ⟨rfl, (by repeat (first | (with_reducible exact Below.refl _ _) | (with_reducible refine K.b_bel ?_ (by assumption)) | (with_reducible refine K.b_alloc ?_ _) | (with_reducible refine K.b_drewN ?_ _) | (with_reducible refine K.b_drew ?_) | (with_reducible refine K.b_set ?_ (by first | omega | (simp <;> omega)) _) | (with_reducible refine K.b_only ?_ (by assumption) (by first | omega | (simp <;> omega)))))⟩
  · have hd : decide ((1024 : Int) < (l.length : Int)) = false := decide_eq_false (by omega)
    have hdn : decide (1024 < l.length) = false := decide_eq_false h1
    cases h2 : Sl.anyOf Tm.odd l
    · rw [h2] at GA
      have HO := K.H.mk h2
      clear h2
      go_enter Try.func16, Try.ntmps16
      go_wp2_with (first | (go_at_call 34; (with_reducible refine (GA.out _ (by repeat (first | (with_reducible exact Below.refl _ _) | (with_reducible refine K.b_bel ?_ (by assumption)) | (with_reducible refine K.b_alloc ?_ _) | (with_reducible refine K.b_drewN ?_ _) | (with_reducible refine K.b_drew ?_) | (with_reducible refine K.b_set ?_ (by first | omega | (simp <;> omega)) _) | (with_reducible refine K.b_only ?_ (by assumption) (by first | omega | (simp <;> omega)))))).mono ?_); rintro e W1 ⟨rfl, hb1⟩; obtain ⟨hB1, hC1, hF1, hZ1⟩ := K.bel_facts hb1; clear hb1))
      have hS0 := met_made W1
      have Hb0 := K.H.mk (show Below w.heap.size w (W1.alloc (.map #[] 0)) from (by repeat (first | (with_reducible exact Below.refl _ _) | (with_reducible refine K.b_bel ?_ (by assumption)) | (with_reducible refine K.b_alloc ?_ _) | (with_reducible refine K.b_drewN ?_ _) | (with_reducible refine K.b_drew ?_) | (with_reducible refine K.b_set ?_ (by first | omega | (simp <;> omega)) _) | (with_reducible refine K.b_only ?_ (by assumption) (by first | omega | (simp <;> omega))))))
      have hz1 : w.heap.size ≤ W1.heap.size := hB1.out.size
      clear GA hd hdn
      ((try clear hC1); (try clear hF1); (try clear hZ1); (try clear hc1); (try clear hf1); (try clear hl1); (try clear hB1); (try clear hO1); (try clear hA1); (try clear hz1_0); (try clear hz1_1); (try clear hz1_2); (try clear hz1_3))
      go_loopw [17] (fun i wr => ∃ k : Nat, k ≤ l.length ∧ i = .int .i64 k ∧ Met wr W1.heap.size k ((l.take k).map Tm.id) ∧ K.H (((l.take k).map Tm.id).Nodup) ∧ K.H (Below w.heap.size w wr)) (fun i _ => l.length - (intOf i).toNat)
      case atStart => exact ⟨0, by omega, rfl, by simpa using hS0, ⟨by simp⟩, Hb0⟩
      case round =>
        clear hS0 Hb0
        obtain ⟨k, hk, rfl, hS, HN, Hb⟩ := hrel
        have hsz := Hb.out.size
        by_cases hlt : k < l.length
        · obtain ⟨x, hx⟩ : ∃ x, l[k]? = some x := ⟨_, List.getElem?_eq_getElem hlt⟩
          have hwf := wf_id (Sl.anyOf_false HO.out x (List.mem_of_getElem? hx))
          have HX := K.H.mk hx
          obtain ⟨b, off, rfl, hbl, hbc⟩ := Sl.Rds.elem Hr.out Tm.cs_len (by omega) hx
          have q_0 : wr.cell? ⟨b, off + k * 2, none⟩ = some (.int .i64 x.t) := (Hb.out.cell (p := ⟨b, off + k * 2 + 0, none⟩) hbl).trans (hbc 0 (by omega))
          have q_1 : wr.cell? ⟨b, off + k * 2 + 1, none⟩ = some (.int .i64 x.id) := (Hb.out.cell (p := ⟨b, off + k * 2 + 1, none⟩) hbl).trans (hbc 1 (by omega))
          clear hbc
          have hbw : b < wr.heap.size := Nat.lt_of_lt_of_le hbl hsz
          have hkl : (k : Int) < (l.length : Int) := by omega
          have hS2 := hS.alloc (.cells #[.int .i64 x.t, .int .i64 x.id] 25)
          have hlk := hS2.lookup hwf
          clear hx
          by_cases hy : x.id ∈ (l.take k).map Tm.id
          · rw [decide_eq_true hy] at hlk
            have he : E = 6 := by rw [HE.out]; exact eChk_6 h1 HO.out (not_nodup HX.out hy)
            subst he
            clear hy
            go_wp2
            go_ret
            exact ⟨rfl, (by repeat (first | (with_reducible exact Below.refl _ _) | (with_reducible exact Hb.out) | (with_reducible refine K.b_bel ?_ (by assumption)) | (with_reducible refine K.b_alloc ?_ _) | (with_reducible refine K.b_drewN ?_ _) | (with_reducible refine K.b_drew ?_) | (with_reducible refine K.b_set ?_ (by first | omega | (simp <;> omega)) _) | (with_reducible refine K.b_only ?_ (by assumption) (by first | omega | (simp <;> omega)))))⟩
          · rw [decide_eq_false hy] at hlk
            have HA := K.H.mk (show addN ((l.take k).map Tm.id) x.id = (l.take (k + 1)).map Tm.id by
              unfold addN; rw [if_neg hy, List.take_add_one, HX.out]; simp)
            have HN2 : K.H (((l.take (k + 1)).map Tm.id).Nodup) := ⟨by rw [← HA.out]; exact addN_nodup HN.out x.id⟩
            have Hlk := K.H.mk hlk
            clear hy
            go_wp2_with (first | (at_mapUpdate; refine wp_met rfl _ _ _ rfl rfl hS2 (by omega) rfl rfl hwf ?_; intro w5 hM5 hg5))
            have hb5 : Below w.heap.size w w5 := Sl.below_grown (K.b_alloc Hb.out _) hg5 (fun j e => by cases e; omega)
            rw [HA.out] at hM5
            have Hb5 := K.H.mk hb5
            clear hb5 hg5 hlk
            go_roundw
            case rel => exact ⟨k + 1, by omega, by go_num, hM5, HN2, Hb5⟩
            case measure => simp [intOf]; omega
        · obtain rfl : k = l.length := by omega
          rw [List.take_length] at HN
          clear hS
          go_wp2
          go_loopw [31] (fun i wr => ∃ k : Nat, k ≤ l.length ∧ i = .int .i64 k ∧ K.H (∀ i, i < k → badAt l i = false) ∧ K.H (Below w.heap.size w wr)) (fun i _ => l.length - (intOf i).toNat)
          case atStart => exact ⟨0, by omega, rfl, ⟨fun i hi => by omega⟩, Hb⟩
          case round =>
            clear Hb hsz
            obtain ⟨k, hk, rfl, HF, Hb⟩ := hrel
            by_cases hlt : k < l.length
            · by_cases h0 : k = 0
              · subst h0
                go_wp2
                go_roundw
                case rel => exact ⟨1, by omega, by go_num, ⟨fun i hi => by rw [show i = 0 by omega]; simp [badAt]⟩, Hb⟩
                case measure => simp [intOf]; omega
              · obtain ⟨x, hx⟩ : ∃ x, l[k]? = some x := ⟨_, List.getElem?_eq_getElem hlt⟩
                obtain ⟨y, hy⟩ : ∃ y, l[(k - 1) / 2]? = some y := ⟨_, List.getElem?_eq_getElem (by omega)⟩
                have HBD := K.H.mk (show badAt l k = x.lt y by unfold badAt; rw [List.getD_eq_getElem?_getD, List.getD_eq_getElem?_getD, hx, hy, decide_eq_true (by omega : 0 < k)]; rfl)
                have GH := K.H.mk (ahead_c l k ((k - 1) / 2) x y A l.length c wr (Hr.out.below Hb.out) hx hy)
                have d0 : decide ((0 : Int) < (k : Int)) = true := decide_eq_true (by omega)
                have d0n : decide (0 < k) = true := decide_eq_true (by omega)
                have hw1 : IntKind.i64.wrap ((k : Int) - 1) = ((k - 1 : Nat) : Int) := by rw [K.i64_in (by omega) (by omega)]; omega
                have hq1 : ((k - 1 : Nat) : Int).tdiv 2 = (((k - 1) / 2 : Nat) : Int) := by rw [Int.natCast_ediv]; exact Int.tdiv_eq_ediv_of_nonneg (by omega)
                have hkl : (k : Int) < (l.length : Int) := by omega
                clear hx hy
                have hm1 : (k - 1) / 2 ≤ 1024 := by omega
                generalize (k - 1) / 2 = m at *
                have hw2 : wrap64 ((m : Nat) : Int) = ((m : Nat) : Int) := by unfold wrap64; omega
                cases hb : x.lt y
                · rw [hb] at GH HBD
                  clear hb
                  go_wp2_with (first | (go_at_call 35; (with_reducible refine (GH.out).mono ?_); rintro e W4 ⟨rfl, hb4⟩; obtain ⟨hB4, hC4, hF4, hZ4⟩ := K.bel_facts hb4; clear hb4))
                  go_roundw
                  case rel =>
                    refine ⟨k + 1, by omega, by go_num, ⟨fun i hi => ?_⟩, ⟨(by repeat (first | (with_reducible exact Below.refl _ _) | (with_reducible exact Hb.out) | (with_reducible refine K.b_bel ?_ (by assumption)) | (with_reducible refine K.b_alloc ?_ _) | (with_reducible refine K.b_drewN ?_ _) | (with_reducible refine K.b_drew ?_) | (with_reducible refine K.b_set ?_ (by first | omega | (simp <;> omega)) _) | (with_reducible refine K.b_only ?_ (by assumption) (by first | omega | (simp <;> omega)))))⟩⟩
                    by_cases hik : i = k
                    · rw [hik]; exact HBD.out
                    · exact HF.out i (by omega)
                  case measure => simp [intOf]; omega
                · rw [hb] at GH HBD
                  have he : E = 9 := by rw [HE.out]; exact eChk_9 h1 HO.out HN.out (fun h => by have := h k hlt; rw [HBD.out] at this; cases this)
                  subst he
                  clear hb
                  go_wp2_with (first | (go_at_call 35; (with_reducible refine (GH.out).mono ?_); rintro e W4 ⟨rfl, hb4⟩; obtain ⟨hB4, hC4, hF4, hZ4⟩ := K.bel_facts hb4; clear hb4))
                  go_ret
                  exact ⟨rfl, (by repeat (first | (with_reducible exact Below.refl _ _) | (with_reducible exact Hb.out) | (with_reducible refine K.b_bel ?_ (by assumption)) | (with_reducible refine K.b_alloc ?_ _) | (with_reducible refine K.b_drewN ?_ _) | (with_reducible refine K.b_drew ?_) | (with_reducible refine K.b_set ?_ (by first | omega | (simp <;> omega)) _) | (with_reducible refine K.b_only ?_ (by assumption) (by first | omega | (simp <;> omega)))))⟩
            · obtain rfl : k = l.length := by omega
              have he : E = 0 := by rw [HE.out]; exact eChk_0 h1 HO.out HN.out HF.out
              subst he
              go_wp2
              go_ret
              exact ⟨rfl, Hb.out⟩
    · rw [h2] at GA
      have he : E = 4 := by rw [HE.out]; unfold eChk; rw [if_neg h1, if_pos h2]
      subst he
      clear h2
      go_enter Try.func16, Try.ntmps16
      go_wp2_with (first | (go_at_call 34; (with_reducible refine (GA.out _ (by repeat (first | (with_reducible exact Below.refl _ _) | (with_reducible refine K.b_bel ?_ (by assumption)) | (with_reducible refine K.b_alloc ?_ _) | (with_reducible refine K.b_drewN ?_ _) | (with_reducible refine K.b_drew ?_) | (with_reducible refine K.b_set ?_ (by first | omega | (simp <;> omega)) _) | (with_reducible refine K.b_only ?_ (by assumption) (by first | omega | (simp <;> omega)))))).mono ?_); rintro e W1 ⟨rfl, hb1⟩; obtain ⟨hB1, hC1, hF1, hZ1⟩ := K.bel_facts hb1; clear hb1))
      go_ret
      exact ⟨rfl, (by repeat (first | (with_reducible exact Below.refl _ _) | (with_reducible refine K.b_bel ?_ (by assumption)) | (with_reducible refine K.b_alloc ?_ _) | (with_reducible refine K.b_drewN ?_ _) | (with_reducible refine K.b_drew ?_) | (with_reducible refine K.b_set ?_ (by first | omega | (simp <;> omega)) _) | (with_reducible refine K.b_only ?_ (by assumption) (by first | omega | (simp <;> omega)))))⟩
end Go.Proofs.Ytmoaekjkihbicaa.Tm
