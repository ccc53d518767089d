/- Timer: the reference's may, Own, Check. -/
import Derived.Test.YtmoaekjkihbicaaTm9
import Derived.Test.YtmoaekjkihbicaaCp
set_option linter.unusedVariables false
namespace Go.Proofs.Ytmoaekjkihbicaa.Tm
open Go.RowKit Go.Proofs.Ytmoaekjkihbicaa
set_option linter.unusedSimpArgs false
theorem may_odd (x : Tm) : (decide (0 ≤ x.t) && decide (x.t ≤ 1073741824) && decide (0 ≤ x.id) && decide (x.id ≤ 1073741824)) = !x.odd := by
  rw [Bool.eq_iff_iff]
  unfold Tm.odd K.mn K.mx
  simp only [Bool.and_eq_true, decide_eq_true_eq, Bool.not_eq_true', Bool.or_eq_false_iff, decide_eq_false_iff_not]
  (repeat' split) <;> omega
set_option maxHeartbeats 2000000 in
theorem rmay_c (x : Tm) (w : World) : Calls Try.prog 39 #[x.a] w fun e w' => e = .returned (.bool (!x.odd)) ∧ Below w.heap.size w w' := by
  rw [← may_odd]
  cases d1 : decide (0 ≤ x.t) <;> cases d2 : decide (x.t ≤ 1073741824) <;> cases d3 : decide (0 ≤ x.id) <;> cases d4 : decide (x.id ≤ 1073741824)
  all_goals
    simp only [Bool.and_false, Bool.and_true, Bool.false_and, Bool.true_and]
    go_enter Try.func39, Try.ntmps39
    go_wp2
    go_ret
    exact ⟨rfl, (by repeat (first | (with_reducible exact Below.refl _ _) | (with_reducible refine K.b_bel ?_ (by assumption)) | (with_reducible refine K.b_alloc ?_ _) | (with_reducible refine K.b_drewN ?_ _) | (with_reducible refine K.b_drew ?_) | (with_reducible refine K.b_set ?_ (by first | omega | (simp <;> omega)) _) | (with_reducible refine K.b_only ?_ (by assumption) (by first | omega | (simp <;> omega)))))⟩
set_option maxRecDepth 100000 in
set_option maxHeartbeats 2000000 in
theorem own_c (cs : List Value) (A : Option Addr) (n c : Nat) (w : World) (hr : Sl.Rds w 2 A n cs) (h1 : ∀ u ∈ cs, u.oneCell' = true) (hn : n * 16 ≤ 140737488355328) :
    Calls Try.prog 19 #[.slice A n c] w fun e w' => (∃ v, e = .returned v ∧ w'.ownsRow w.heap.size 25 2 v n cs) ∧ Below w.heap.size w w' := by
  have Hr := K.H.mk hr
  have H1 := K.H.mk h1
  have Hn := K.H.mk hn
  clear hr h1 hn
  go_enter Try.func19, Try.ntmps19
  go_wp2_with (at_builtin; refine Sl.app_all rfl _ _ 22 25 (.agg #[.int .i64 0, .int .i64 0]) 2 16 rfl Try.underlying22 (by kernel_rfl) rfl (by decide) A n c cs rfl rfl Hr.out H1.out Hn.out ?_; intro v W1 hown hb)
  go_ret
  exact ⟨⟨v, rfl, hown⟩, hb⟩
set_option maxRecDepth 100000 in
set_option maxHeartbeats 8000000 in
theorem rCheck_c (l : List Tm) (A : Option Addr) (n c : Nat) (w : World) (hr : Sl.Rds w 2 A n (l.flatMap Tm.cs)) :
    Calls Try.prog 26 #[.slice A n c] w fun e w' => e = .returned (.int .i64 (eChk l)) ∧ Below w.heap.size w w' := by
  obtain rfl := hr.length Tm.cs_len (by omega)
  have hle := hr.le
  have Hr := K.H.mk hr
  obtain ⟨E, hE⟩ : ∃ E, E = eChk l := ⟨_, rfl⟩
  have HE := K.H.mk hE
  rw [← hE]
  clear hr hE
  by_cases h1 : 1024 < l.length
  · have hd : decide ((1024 : Int) < (l.length : Int)) = true := decide_eq_true (by omega)
    have he : E = 3 := by rw [HE.out]; unfold eChk; rw [if_pos h1]
    subst he
    clear h1
    go_enter Try.func26, Try.ntmps26
    go_wp2
    go_ret
    exact ⟨rfl, (by repeat (first | (with_reducible exact Below.refl _ _) | (with_reducible refine K.b_bel ?_ (by assumption)) | (with_reducible refine K.b_alloc ?_ _) | (with_reducible refine K.b_drewN ?_ _) | (with_reducible refine K.b_drew ?_) | (with_reducible refine K.b_set ?_ (by first | omega | (simp <;> omega)) _) | (with_reducible refine K.b_only ?_ (by assumption) (by first | omega | (simp <;> omega)))))⟩
  · have hd : decide ((1024 : Int) < (l.length : Int)) = false := decide_eq_false (by omega)
    have hdn : decide (1024 < l.length) = false := decide_eq_false h1
    have H1 := K.H.mk h1
    go_enter Try.func26, Try.ntmps26
    go_wp2
    clear hd hdn h1
    go_loopw [3] (fun i wr => ∃ k : Nat, k ≤ l.length ∧ i = .int .i64 k ∧ K.H (∀ j y, j < k → l[j]? = some y → Tm.odd y = false) ∧ K.H (Below w.heap.size w wr)) (fun i _ => l.length - (intOf i).toNat)
    case atStart => exact ⟨0, by omega, rfl, ⟨fun j y h => by omega⟩, ⟨Below.refl _ _⟩⟩
    case round =>
      obtain ⟨k, hk, rfl, Hf, Hb⟩ := hrel
      by_cases hlt : k < l.length
      · obtain ⟨x, hx⟩ : ∃ x, l[k]? = some x := ⟨_, List.getElem?_eq_getElem hlt⟩
        obtain ⟨b, off, rfl, hbl, hbc⟩ := Sl.Rds.elem Hr.out Tm.cs_len (by omega) hx
        have q_0 : wr.cell? ⟨b, off + k * 2, none⟩ = some (.int .i64 x.t) := (Hb.out.cell (p := ⟨b, off + k * 2 + 0, none⟩) hbl).trans (hbc 0 (by omega))
        have q_1 : wr.cell? ⟨b, off + k * 2 + 1, none⟩ = some (.int .i64 x.id) := (Hb.out.cell (p := ⟨b, off + k * 2 + 1, none⟩) hbl).trans (hbc 1 (by omega))
        clear hbc
        have hbw : b < wr.heap.size := Nat.lt_of_lt_of_le hbl Hb.out.size
        have hkl : (k : Int) < (l.length : Int) := by omega
        have HX := K.H.mk hx
        have GM := K.H.mk (fun (W : World) => rmay_c x W)
        clear hx
        cases ho : x.odd
        · rw [ho] at GM
          have HO := K.H.mk ho
          clear ho
          go_wp2_with (first | (go_at_call 39; (with_reducible refine (GM.out _).mono ?_); rintro e W4 ⟨rfl, hb4⟩; obtain ⟨hB4, hC4, hF4, hZ4⟩ := K.bel_facts hb4; clear hb4))
          go_roundw
          case rel =>
            refine ⟨k + 1, by omega, by go_num, ⟨fun j y hj hy => ?_⟩, ⟨(by repeat (first | (with_reducible exact Below.refl _ _) | (with_reducible exact Hb.out) | (with_reducible refine K.b_bel ?_ (by assumption)) | (with_reducible refine K.b_alloc ?_ _) | (with_reducible refine K.b_drewN ?_ _) | (with_reducible refine K.b_drew ?_) | (with_reducible refine K.b_set ?_ (by first | omega | (simp <;> omega)) _) | (with_reducible refine K.b_only ?_ (by assumption) (by first | omega | (simp <;> omega)))))⟩⟩
            by_cases hjk : j = k
            · subst hjk; rw [HX.out] at hy; cases hy; exact HO.out
            · exact Hf.out j y (by omega) hy
          case measure => simp [intOf]; omega
        · rw [ho] at GM
          have he : E = 4 := by
            rw [HE.out]; unfold eChk; rw [if_neg H1.out, if_pos]
            unfold Sl.anyOf; rw [List.any_eq_true]; exact ⟨x, List.mem_of_getElem? HX.out, ho⟩
          subst he
          clear ho
          go_wp2_with (first | (go_at_call 39; (with_reducible refine (GM.out _).mono ?_); rintro e W4 ⟨rfl, hb4⟩; obtain ⟨hB4, hC4, hF4, hZ4⟩ := K.bel_facts hb4; clear hb4))
          go_ret
          exact ⟨rfl, (by repeat (first | (with_reducible exact Below.refl _ _) | (with_reducible exact Hb.out) | (with_reducible refine K.b_bel ?_ (by assumption)) | (with_reducible refine K.b_alloc ?_ _) | (with_reducible refine K.b_drewN ?_ _) | (with_reducible refine K.b_drew ?_) | (with_reducible refine K.b_set ?_ (by first | omega | (simp <;> omega)) _) | (with_reducible refine K.b_only ?_ (by assumption) (by first | omega | (simp <;> omega)))))⟩
      · obtain rfl : k = l.length := by omega
        have HO := K.H.mk (show Sl.anyOf Tm.odd l = false by
          cases h : Sl.anyOf Tm.odd l
          · rfl
          · obtain ⟨x, hx, h2⟩ := Sl.anyOf_true h
            obtain ⟨j, hj⟩ := List.getElem?_of_mem hx
            rw [Hf.out j x (List.getElem?_eq_some_iff.1 hj).1 hj] at h2; cases h2)
        have Hb0 := K.H.mk Hb.out
        clear Hf Hb
        go_wp2
        go_loopw [4] (fun i wr => ∃ k : Nat, k ≤ l.length ∧ i = .int .i64 k ∧ K.H (((l.take k).map Tm.id).Nodup) ∧ K.H (Below w.heap.size w wr)) (fun i _ => l.length - (intOf i).toNat)
        case atStart => exact ⟨0, by omega, rfl, ⟨by simp⟩, Hb0⟩
        case round =>
          clear Hb0
          obtain ⟨k, hk, rfl, HN, Hb⟩ := hrel
          by_cases hlt : k < l.length
          · obtain ⟨x, hx⟩ : ∃ x, l[k]? = some x := ⟨_, List.getElem?_eq_getElem hlt⟩
            obtain ⟨b, off, rfl, hbl, hbc⟩ := Sl.Rds.elem Hr.out Tm.cs_len (by omega) hx
            have HBC := K.H.mk hbc
            have HX := K.H.mk hx
            have hkl : (k : Int) < (l.length : Int) := by omega
            have Hb1 := K.H.mk Hb.out
            clear hbc hx Hb
            go_wp2
            go_loopw [5] (fun i wr => ∃ j : Nat, j ≤ k ∧ i = .int .i64 j ∧ K.H (∀ p y, p < j → l[p]? = some y → x.id ≠ y.id) ∧ K.H (Below w.heap.size w wr)) (fun i _ => k - (intOf i).toNat)
            case atStart => exact ⟨0, by omega, rfl, ⟨fun p y h => by omega⟩, Hb1⟩
            case round =>
              clear Hb1
              obtain ⟨j, hj, rfl, HD, Hb⟩ := hrel
              have hsz := Hb.out.size
              have hbw : b < wr.heap.size := Nat.lt_of_lt_of_le hbl hsz
              by_cases hjk : j < k
              · obtain ⟨y, hy⟩ : ∃ y, l[j]? = some y := ⟨_, List.getElem?_eq_getElem (by omega)⟩
                obtain ⟨b5, off5, hee5, hbl5, hbc5⟩ := Sl.Rds.elem Hr.out Tm.cs_len (by omega) hy
                cases hee5
                have q5_0 : wr.cell? ⟨b, off + j * 2, none⟩ = some (.int .i64 y.t) := (Hb.out.cell (p := ⟨b, off + j * 2 + 0, none⟩) hbl5).trans (hbc5 0 (by omega))
                have q5_1 : wr.cell? ⟨b, off + j * 2 + 1, none⟩ = some (.int .i64 y.id) := (Hb.out.cell (p := ⟨b, off + j * 2 + 1, none⟩) hbl5).trans (hbc5 1 (by omega))
                clear hbc5
                have q_1 : wr.cell? ⟨b, off + k * 2 + 1, none⟩ = some (.int .i64 x.id) := (Hb.out.cell (p := ⟨b, off + k * 2 + 1, none⟩) hbl).trans (HBC.out 1 (by omega))
                have HY := K.H.mk hy
                have hjl : (j : Int) < (l.length : Int) := by omega
                clear hy
                cases hp : (x.id == y.id)
                · have HP := K.H.mk hp
                  go_wp2
                  refine K.wp_region_ext_lit (by kernel_rfl) (by kernel_rfl) ?_
                  repeat (any_goals (first | go_big_quiet_skip | quiet_step (fail) | (refine wpQuiet_step (fun K hK => ?_); go_simp; split <;> (refine hK _ ?_; clear hK K))))
                  all_goals (refine wpQuiet_nil ?_; intro W9 hW9; obtain ⟨hB9, hC9, hF9, hZ9⟩ := K.ext_facts hW9; clear hW9)
                  all_goals go_wp2
                  go_roundw
                  case rel =>
                    refine ⟨j + 1, by omega, by go_num, ⟨fun p z hp hz => ?_⟩, ⟨(by repeat (first | (with_reducible exact Below.refl _ _) | (with_reducible exact Hb.out) | (with_reducible refine K.b_bel ?_ (by assumption)) | (with_reducible refine K.b_alloc ?_ _) | (with_reducible refine K.b_drewN ?_ _) | (with_reducible refine K.b_drew ?_) | (with_reducible refine K.b_set ?_ (by first | omega | (simp <;> omega)) _) | (with_reducible refine K.b_only ?_ (by assumption) (by first | omega | (simp <;> omega)))))⟩⟩
                    by_cases hpj : p = j
                    · subst hpj; rw [HY.out] at hz; cases hz; simpa using HP.out
                    · exact HD.out p z (by omega) hz
                  case measure => simp [intOf]; omega
                · have he : E = 6 := by
                    rw [HE.out]
                    refine eChk_6 H1.out HO.out (not_nodup HX.out ?_)
                    have h7 : x.id = y.id := by simpa using hp
                    rw [h7]
                    exact List.mem_map.2 ⟨y, List.mem_take_iff_getElem.2 ⟨j, by have := (List.getElem?_eq_some_iff.1 HY.out).1; omega, (List.getElem?_eq_some_iff.1 HY.out).2⟩, rfl⟩
                  subst he
                  go_wp2
                  refine K.wp_region_ext_lit (by kernel_rfl) (by kernel_rfl) ?_
                  repeat (any_goals (first | go_big_quiet_skip | quiet_step (fail) | (refine wpQuiet_step (fun K hK => ?_); go_simp; split <;> (refine hK _ ?_; clear hK K))))
                  all_goals (refine wpQuiet_nil ?_; intro W9 hW9; obtain ⟨hB9, hC9, hF9, hZ9⟩ := K.ext_facts hW9; clear hW9)
                  all_goals go_wp2
                  go_ret
                  exact ⟨rfl, (by repeat (first | (with_reducible exact Below.refl _ _) | (with_reducible exact Hb.out) | (with_reducible refine K.b_bel ?_ (by assumption)) | (with_reducible refine K.b_alloc ?_ _) | (with_reducible refine K.b_drewN ?_ _) | (with_reducible refine K.b_drew ?_) | (with_reducible refine K.b_set ?_ (by first | omega | (simp <;> omega)) _) | (with_reducible refine K.b_only ?_ (by assumption) (by first | omega | (simp <;> omega)))))⟩
              · obtain rfl : j = k := by omega
                have HN2 : K.H (((l.take (j + 1)).map Tm.id).Nodup) := ⟨by
                  rw [List.take_add_one, HX.out, List.map_append, List.nodup_append]
                  refine ⟨HN.out, by simp, ?_⟩
                  intro i hi i2 hi2
                  simp at hi2; subst hi2
                  obtain ⟨y, hy, rfl⟩ := List.mem_map.1 hi
                  obtain ⟨p, hp, h8⟩ := List.mem_take_iff_getElem.1 hy
                  exact fun e => HD.out p y (by omega) (List.getElem?_eq_some_iff.2 ⟨by omega, h8⟩) e.symm⟩
                go_wp2
                go_roundw
                case rel => exact ⟨j + 1, by omega, by go_num, HN2, Hb⟩
                case measure => simp [intOf]; omega
          · obtain rfl : k = l.length := by omega
            rw [List.take_length] at HN
            have Hb1 := K.H.mk Hb.out
            clear Hb
            go_wp2
            go_loopw [6] (fun i wr => ∃ k : Nat, 1 ≤ k ∧ (k ≤ l.length ∨ k = 1) ∧ i = .int .i64 k ∧ K.H (∀ i, i < k → badAt l i = false) ∧ K.H (Below w.heap.size w wr)) (fun i _ => l.length - (intOf i).toNat)
            case atStart => exact ⟨1, by omega, .inr rfl, rfl, ⟨fun i hi => by rw [show i = 0 by omega]; simp [badAt]⟩, Hb1⟩
            case round =>
              clear Hb1
              obtain ⟨k, hk1, hk, rfl, HF, Hb⟩ := hrel
              by_cases hlt : k < l.length
              · obtain ⟨x, hx⟩ : ∃ x, l[k]? = some x := ⟨_, List.getElem?_eq_getElem hlt⟩
                obtain ⟨y, hy⟩ : ∃ y, l[(k - 1) / 2]? = some y := ⟨_, List.getElem?_eq_getElem (by omega)⟩
                have HBD := K.H.mk (show badAt l k = x.lt y by unfold badAt; rw [List.getD_eq_getElem?_getD, List.getD_eq_getElem?_getD, hx, hy, decide_eq_true (by omega : 0 < k)]; rfl)
                have GH := K.H.mk (fun (W : World) => rAhead_c x y W)
                obtain ⟨b, off, rfl, hbl, hbc⟩ := Sl.Rds.elem Hr.out Tm.cs_len (by omega) hx
                have q_0 : wr.cell? ⟨b, off + k * 2, none⟩ = some (.int .i64 x.t) := (Hb.out.cell (p := ⟨b, off + k * 2 + 0, none⟩) hbl).trans (hbc 0 (by omega))
                have q_1 : wr.cell? ⟨b, off + k * 2 + 1, none⟩ = some (.int .i64 x.id) := (Hb.out.cell (p := ⟨b, off + k * 2 + 1, none⟩) hbl).trans (hbc 1 (by omega))
                clear hbc
                obtain ⟨b5, off5, hee5, hbl5, hbc5⟩ := Sl.Rds.elem Hr.out Tm.cs_len (by omega) hy
                cases hee5
                have q5_0 : wr.cell? ⟨b, off + ((k - 1) / 2) * 2, none⟩ = some (.int .i64 y.t) := (Hb.out.cell (p := ⟨b, off + ((k - 1) / 2) * 2 + 0, none⟩) hbl5).trans (hbc5 0 (by omega))
                have q5_1 : wr.cell? ⟨b, off + ((k - 1) / 2) * 2 + 1, none⟩ = some (.int .i64 y.id) := (Hb.out.cell (p := ⟨b, off + ((k - 1) / 2) * 2 + 1, none⟩) hbl5).trans (hbc5 1 (by omega))
                clear hbc5
                have hbw : b < wr.heap.size := Nat.lt_of_lt_of_le hbl Hb.out.size
                have hw1 : IntKind.i64.wrap ((k : Int) - 1) = ((k - 1 : Nat) : Int) := by rw [K.i64_in (by omega) (by omega)]; omega
                have hq1 : ((k - 1 : Nat) : Int).tdiv 2 = (((k - 1) / 2 : Nat) : Int) := by rw [Int.natCast_ediv]; exact Int.tdiv_eq_ediv_of_nonneg (by omega)
                have hkl : (k : Int) < (l.length : Int) := by omega
                have hml : (k - 1) / 2 < l.length := by omega
                clear hx hy
                generalize (k - 1) / 2 = m at *
                have hw2 : wrap64 ((m : Nat) : Int) = ((m : Nat) : Int) := by have := H1.out; unfold wrap64; omega
                have hw3 : IntKind.i64.wrap ((m : Nat) : Int) = ((m : Nat) : Int) := by have := H1.out; exact K.i64_in (by omega) (by omega)
                have hml2 : (m : Int) < (l.length : Int) := by omega
                have hm0 : (0 : Int) ≤ (m : Int) := by omega
                have HBN := K.H.mk (show 1 ≤ k ∧ k < l.length from ⟨hk1, hlt⟩)
                have hk0 : (0 : Int) ≤ (k : Int) := by omega
                clear hml hk hk1 hlt
                cases hb : x.lt y
                · rw [hb] at GH HBD
                  clear hb
                  go_wp2
                  refine K.wp_region_ext_lit (by kernel_rfl) (by kernel_rfl) ?_
                  repeat (any_goals (first | go_big_quiet_skip | quiet_step ((go_at_call 12; first | (with_reducible exact K.q_below (GH.out _)))) | (refine wpQuiet_step (fun K hK => ?_); go_simp; split <;> (refine hK _ ?_; clear hK K))))
                  all_goals (refine wpQuiet_nil ?_; intro W9 hW9; obtain ⟨hB9, hC9, hF9, hZ9⟩ := K.ext_facts hW9; clear hW9)
                  all_goals go_wp2
                  go_roundw
                  case rel =>
                    clear hw1 hw2 hw3 hq1
                    refine ⟨k + 1, by omega, .inl (by have := HBN.out; omega), by go_num, ⟨fun i hi => ?_⟩, ⟨(by repeat (first | (with_reducible exact Below.refl _ _) | (with_reducible exact Hb.out) | (with_reducible refine K.b_bel ?_ (by assumption)) | (with_reducible refine K.b_alloc ?_ _) | (with_reducible refine K.b_drewN ?_ _) | (with_reducible refine K.b_drew ?_) | (with_reducible refine K.b_set ?_ (by first | omega | (simp <;> omega)) _) | (with_reducible refine K.b_only ?_ (by assumption) (by first | omega | (simp <;> omega)))))⟩⟩
                    by_cases hik : i = k
                    · rw [hik]; exact HBD.out
                    · exact HF.out i (by omega)
                  case measure =>
                    clear hw1 hw2 hw3 hq1
                    have := HBN.out
                    simp [intOf]; omega
                · rw [hb] at GH HBD
                  have he : E = 9 := by rw [HE.out]; exact eChk_9 H1.out HO.out HN.out (fun h => by have := h k HBN.out.2; rw [HBD.out] at this; cases this)
                  subst he
                  clear hb
                  go_wp2
                  refine K.wp_region_ext_lit (by kernel_rfl) (by kernel_rfl) ?_
                  repeat (any_goals (first | go_big_quiet_skip | quiet_step ((go_at_call 12; first | (with_reducible exact K.q_below (GH.out _)))) | (refine wpQuiet_step (fun K hK => ?_); go_simp; split <;> (refine hK _ ?_; clear hK K))))
                  all_goals (refine wpQuiet_nil ?_; intro W9 hW9; obtain ⟨hB9, hC9, hF9, hZ9⟩ := K.ext_facts hW9; clear hW9)
                  all_goals go_wp2
                  go_ret
                  exact ⟨rfl, (by repeat (first | (with_reducible exact Below.refl _ _) | (with_reducible exact Hb.out) | (with_reducible refine K.b_bel ?_ (by assumption)) | (with_reducible refine K.b_alloc ?_ _) | (with_reducible refine K.b_drewN ?_ _) | (with_reducible refine K.b_drew ?_) | (with_reducible refine K.b_set ?_ (by first | omega | (simp <;> omega)) _) | (with_reducible refine K.b_only ?_ (by assumption) (by first | omega | (simp <;> omega)))))⟩
              · have he : E = 0 := by rw [HE.out]; exact eChk_0 H1.out HO.out HN.out (fun i hi => HF.out i (by omega))
                subst he
                have hnl : decide ((k : Int) < (l.length : Int)) = false := decide_eq_false (by omega)
                have hnln : decide (k < l.length) = false := decide_eq_false hlt
                clear hk hlt
                go_wp2
                go_ret
                exact ⟨rfl, Hb.out⟩
end Go.Proofs.Ytmoaekjkihbicaa.Tm
