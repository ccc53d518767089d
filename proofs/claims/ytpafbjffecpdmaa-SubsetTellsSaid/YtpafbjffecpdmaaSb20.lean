/- Subset: the reference's sorted. -/
import Derived.Test.YtpafbjffecpdmaaSb19
set_option linter.unusedVariables false
namespace Go.Proofs.Ytpafbjffecpdmaa.Sb
open Go.RowKit Go.Proofs.Ytpafbjffecpdmaa
attribute [local go_sem] K.max2_int K.min2_int K.max_two K.min_two K.max_three K.min_three
set_option linter.unusedSimpArgs false
set_option maxRecDepth 100000 in
set_option maxHeartbeats 4000000 in
theorem sorted_c (L : List Int) (A : Option Addr) (n c : Nat) (w : World) (hr : Sl.Rds w 1 A n (L.flatMap fun n => [.int .i64 n])) (hn : n * 8 ≤ 140737488355328) :
    Calls Try.prog 26 #[.slice A n c] w fun e w' => ∃ v, e = .returned v ∧ w'.ownsRow w.heap.size 3 1 v n ((sortI L).map iv) ∧ Below w.heap.size w w' := by
  obtain rfl := hr.length (fun _ => rfl) (by omega)
  have hle := hr.le
  have Hr := K.H.mk hr
  clear hr
  go_enter Try.func26, Try.ntmps26
  go_wp2
  go_loopw [3, 4] (fun v i wr => ∃ k : Nat, k ≤ L.length ∧ i = .int .i64 k ∧ wr.ownsRow w.heap.size 3 1 v k ((sortI (L.take k)).map iv) ∧ K.H (Below w.heap.size w wr)) (fun _ i _ => L.length - (intOf i).toNat)
  case atStart => exact ⟨0, by omega, rfl, by simpa [sortI] using World.ownsRow_nil _ _ _ _, ⟨Below.refl _ _⟩⟩
  case round =>
    obtain ⟨k, hk, rfl, hown, Hb⟩ := hrel
    have hsz := Hb.out.size
    by_cases hlt : k < L.length
    · obtain ⟨x, hx⟩ : ∃ x, L[k]? = some x := ⟨_, List.getElem?_eq_getElem hlt⟩
      have HX := K.H.mk hx
      have hSl : (sortI (L.take k)).length = k := by rw [sortI_len, List.length_take]; omega
      obtain ⟨S, hS⟩ : ∃ S, S = sortI (L.take k) := ⟨_, rfl⟩
      have HS := K.H.mk hS
      rw [← hS] at hown hSl
      clear hS
      have HT := K.H.mk (show L.take (k + 1) = L.take k ++ [x] by rw [List.take_add_one, hx]; rfl)
      obtain ⟨b, off, rfl, hbl, hbc⟩ := Sl.Rds.elem Hr.out (enc := fun n => [.int .i64 n]) (fun _ => rfl) (by omega) hx
      have q_0 : wr.cell? ⟨b, off + k, none⟩ = some (.int .i64 x) := by
        have := (Hb.out.cell (p := ⟨b, off + k * 1 + 0, none⟩) hbl).trans (hbc 0 (by omega))
        simpa using this
      have HC0 := K.H.mk (hbc 0 (by omega))
      have hbw : b < wr.heap.size := Nat.lt_of_lt_of_le hbl Hb.out.size
      obtain ⟨A1, c1, rfl, hnc, hcm, hR1⟩ := Sl.Rds.of_own2 hown
      clear hnc hcm hR1
      have hkl : (k : Int) < (L.length : Int) := by omega
      go_wp2_with (first | (at_builtin; refine Sl.app1 (news := [iv x]) rfl _ _ 22 3 (.int .i64 0) rfl Try.underlying22 (by kernel_rfl : (Try.prog.info? 3).map (fun i => (i.zero, i.size, i.bytes)) = some (some (.int .i64 0), 1, 8)) rfl (by decide) (by decide) rfl ((hown).alloc _) rfl rfl (Sl.new_cells _ _ _ _ (by first | rfl | simp)) (by simp [Value.oneCell']) (by omega) (by simp <;> omega) ?_; intro v8 W8 hown8 hgr8))
      have Hw8 : K.H (Below w.heap.size w W8) := ⟨Sl.below_grown (K.b_alloc Hb.out _) hgr8 (fun k hk => Sl.own_base hown k hk)⟩
      obtain ⟨g, cap, he, hgb, hgl⟩ := own_form hown8 (by omega)
      subst he
      rw [show S.map iv ++ [iv x] = (mid S k x).map iv by rw [← hSl, mid_end]; simp] at hown8
      clear hx hbc hown Hb hgr8 hbw hsz q_0
      go_loopw [5] (fun v5 wr => ∃ (a : Nat) (y : Int), a ≤ k ∧ v5 = .int .i64 a ∧ wr.ownsRow w.heap.size 3 1 (.slice (some ⟨g, 0, none⟩) (k + 1) cap) (k + 1) ((mid S a y).map iv) ∧ K.H (Below w.heap.size w wr) ∧ K.H (∀ z ∈ S.drop a, x < z)) (fun v5 _ => (intOf v5).toNat)
      case atStart => exact ⟨k, x, by omega, rfl, hown8, Hw8, ⟨by rw [List.drop_eq_nil_of_le (by omega)]; simp⟩⟩
      case round =>
        clear hown8 Hw8 hgl
        obtain ⟨a, y, ha, rfl, hown, Hb, HD⟩ := hrel
        have q2 := (Hb.out.cell (p := ⟨b, off + k * 1 + 0, none⟩) hbl).trans HC0.out
        simp at q2
        have hsz := Hb.out.size
        have hbw : b < wr.heap.size := Nat.lt_of_lt_of_le hbl hsz
        have hst := (hown.stored a (iv x)).1
        rw [← List.map_set, mid_set (by omega)] at hst
        have Hst := K.H.mk hst
        have hf_a := hown.frozenAt a
        have hc_a : wr.cell? ⟨g, a, none⟩ = some (.int .i64 y) := by rw [hown.cellAt a (by omega), List.getElem?_map, mid_at (by omega)]; rfl
        have hak : (a : Int) < ((k + 1 : Nat) : Int) := by omega
        clear hst
        by_cases h0 : a = 0
        · subst h0
          have HN := K.H.mk (show mid S 0 x = sortI (L.take (k + 1)) by rw [HT.out, mid_sort HS.out (.inl rfl) (by omega) HD.out])
          rw [HN.out] at Hst
          clear HN HD HS HT hown
          go_wp2
          go_region
          all_goals go_wp2
          all_goals
            go_roundw
            case rel => exact ⟨k + 1, by omega, by go_num, Hst.out, ⟨(by repeat (first | (with_reducible exact Below.refl _ _) | (with_reducible exact Hb.out) | (with_reducible refine K.b_bel ?_ (by assumption)) | (with_reducible refine K.b_alloc ?_ _) | (with_reducible refine K.b_drewN ?_ _) | (with_reducible refine K.b_drew ?_) | (with_reducible refine K.b_set ?_ (by first | omega | (simp <;> omega)) _) | (with_reducible refine K.b_only ?_ (by assumption) (by first | omega | (simp <;> omega)))))⟩⟩
            case measure => simp [intOf]; omega
        · obtain ⟨z, hz⟩ : ∃ z, S[a - 1]? = some z := ⟨_, List.getElem?_eq_getElem (by omega)⟩
          have hc_p : wr.cell? ⟨g, a - 1, none⟩ = some (.int .i64 z) := by rw [hown.cellAt (a - 1) (by omega), List.getElem?_map, mid_get (by omega) (by omega), hz]; rfl
          have hf_p := hown.frozenAt (a - 1)
          have d0 : decide ((0 : Int) < (a : Int)) = true := decide_eq_true (by omega)
          have d0n : decide (0 < a) = true := decide_eq_true (by omega)
          have hw1 : IntKind.i64.wrap ((a : Int) - 1) = ((a - 1 : Nat) : Int) := by rw [K.i64_in (by omega) (by omega)]; omega
          have hi1 : ((a - 1 : Nat) : Int) < ((k + 1 : Nat) : Int) := by omega
          have hi2 : ((a - 1 : Nat) : Int) < (k : Int) + 1 := by omega
          have hi0 : (0 : Int) ≤ ((a - 1 : Nat) : Int) := by omega
          have HP := K.H.mk (Nat.pos_of_ne_zero h0)
          by_cases hzx : x < z
          · have dd : decide (x < z) = true := decide_eq_true hzx
            have hs2 := (hown.stored a (iv z)).1
            rw [← List.map_set, show (mid S a y).set a z = mid S (a - 1) z by
              obtain ⟨p, rfl⟩ : ∃ p, a = p + 1 := ⟨a - 1, by omega⟩
              exact mid_step hz y] at hs2
            have Hs2 := K.H.mk hs2
            have HD2 : K.H (∀ u ∈ S.drop (a - 1), x < u) := ⟨by
              intro u hu
              rw [List.drop_eq_getElem_cons (show a - 1 < S.length by omega), (List.getElem?_eq_some_iff.1 hz).2, show a - 1 + 1 = a by omega] at hu
              rcases List.mem_cons.1 hu with rfl | hu
              · exact hzx
              · exact HD.out u hu⟩
            clear hs2 HD HS HT hown Hst hz h0 hzx
            go_wp2
            go_region
            all_goals go_wp2
            all_goals
              go_roundw
              case rel => exact ⟨a - 1, z, by omega, rfl, Hs2.out, ⟨(by repeat (first | (with_reducible exact Below.refl _ _) | (with_reducible exact Hb.out) | (with_reducible refine K.b_bel ?_ (by assumption)) | (with_reducible refine K.b_alloc ?_ _) | (with_reducible refine K.b_drewN ?_ _) | (with_reducible refine K.b_drew ?_) | (with_reducible refine K.b_set ?_ (by first | omega | (simp <;> omega)) _) | (with_reducible refine K.b_only ?_ (by assumption) (by first | omega | (simp <;> omega)))))⟩, HD2⟩
              case measure => have hpp := HP.out; simp [intOf]; omega
          · have dd : decide (x < z) = false := decide_eq_false hzx
            have HN := K.H.mk (show mid S a x = sortI (L.take (k + 1)) by rw [HT.out, mid_sort HS.out (.inr ⟨z, hz, by omega⟩) (by omega) HD.out])
            rw [HN.out] at Hst
            clear HN HD HS HT hown hz h0 hzx
            go_wp2
            go_region
            all_goals go_wp2
            all_goals
              go_roundw
              case rel => exact ⟨k + 1, by omega, by go_num, Hst.out, ⟨(by repeat (first | (with_reducible exact Below.refl _ _) | (with_reducible exact Hb.out) | (with_reducible refine K.b_bel ?_ (by assumption)) | (with_reducible refine K.b_alloc ?_ _) | (with_reducible refine K.b_drewN ?_ _) | (with_reducible refine K.b_drew ?_) | (with_reducible refine K.b_set ?_ (by first | omega | (simp <;> omega)) _) | (with_reducible refine K.b_only ?_ (by assumption) (by first | omega | (simp <;> omega)))))⟩⟩
              case measure => simp [intOf]; omega
    · obtain rfl : k = L.length := by omega
      rw [List.take_length] at hown
      go_wp2
      go_ret
      exact ⟨_, rfl, hown, Hb.out⟩
end Go.Proofs.Ytpafbjffecpdmaa.Sb
