/- Subset: the reference's rising and sorted. -/
import Derived.Test.YtpafbjffecpdmaaSb18
set_option linter.unusedVariables false
namespace Go.Proofs.Ytpafbjffecpdmaa.Sb
open Go.RowKit Go.Proofs.Ytpafbjffecpdmaa
attribute [local go_sem] K.max2_int K.min2_int K.max_two K.min_two K.max_three K.min_three
set_option linter.unusedSimpArgs false
def mid (S : List Int) (a : Nat) (y : Int) : List Int := S.take a ++ y :: S.drop a
theorem mid_len (S : List Int) (a : Nat) (y : Int) : (mid S a y).length = S.length + 1 := by
  simp [mid]; omega
theorem mid_set {S : List Int} {a : Nat} (h : a ≤ S.length) (y x : Int) : (mid S a y).set a x = mid S a x := by
  unfold mid; rw [List.set_append]; simp [Nat.min_eq_left h]
theorem mid_end (S : List Int) (y : Int) : mid S S.length y = S ++ [y] := by simp [mid]
theorem mid_step {S : List Int} {a : Nat} {z : Int} (h : S[a]? = some z) (y : Int) : (mid S (a + 1) y).set (a + 1) z = mid S a z := by
  have hl : a < S.length := (List.getElem?_eq_some_iff.1 h).1
  rw [mid_set (by omega)]
  unfold mid
  rw [List.take_add_one, h, List.drop_eq_getElem_cons hl, (List.getElem?_eq_some_iff.1 h).2]
  simp
theorem mid_get {S : List Int} {a p : Nat} (hp : p < a) (h : a ≤ S.length) (y : Int) : (mid S a y)[p]? = S[p]? := by
  unfold mid; rw [List.getElem?_append_left (by rw [List.length_take]; omega), List.getElem?_take_of_lt hp]
theorem mid_at {S : List Int} {a : Nat} (h : a ≤ S.length) (y : Int) : (mid S a y)[a]? = some y := by
  unfold mid; rw [List.getElem?_append_right (by rw [List.length_take]; omega)]; simp [Nat.min_eq_left h]
theorem mid_perm (S : List Int) (a : Nat) (y : Int) : (mid S a y).Perm (S ++ [y]) := by
  have h1 : (mid S a y).Perm (y :: (S.take a ++ S.drop a)) := List.perm_middle
  rw [List.take_append_drop] at h1
  exact h1.trans (List.perm_append_singleton y S).symm
theorem mid_sort {L S : List Int} {a : Nat} {x : Int} (hS : S = sortI L) (h1 : a = 0 ∨ ∃ z, S[a - 1]? = some z ∧ z ≤ x) (ha : a ≤ S.length) (h2 : ∀ z ∈ S.drop a, x < z) : sortI (L ++ [x]) = mid S a x := by
  subst hS
  have hs := sortI_le L
  apply sortI_eq
  · exact (mid_perm _ _ _).trans ((sortI_perm L).append_right [x])
  · have hd : (List.take a (sortI L) ++ List.drop a (sortI L)).Pairwise (· ≤ ·) := by rw [List.take_append_drop]; exact hs
    rw [List.pairwise_append] at hd
    have hle : ∀ z ∈ (sortI L).take a, z ≤ x := by
      intro z hz
      rcases h1 with h0 | ⟨u, hu, hux⟩
      · subst h0; simp at hz
      · obtain ⟨i, hi, rfl⟩ := List.mem_iff_getElem.1 hz
        simp at hi
        rw [List.getElem_take]
        by_cases he : i = a - 1
        · subst he
          rw [(List.getElem?_eq_some_iff.1 hu).2]; exact hux
        · have h3 := List.pairwise_iff_getElem.1 hs i (a - 1) (by omega) (by omega) (by omega)
          rw [(List.getElem?_eq_some_iff.1 hu).2] at h3
          omega
    unfold mid
    rw [List.pairwise_append, List.pairwise_cons]
    refine ⟨hd.1, ⟨fun z hz => by have := h2 z hz; omega, hd.2.1⟩, ?_⟩
    intro u hu v hv
    rcases List.mem_cons.1 hv with rfl | hv
    · exact hle u hu
    · exact hd.2.2 u hu v hv
set_option maxRecDepth 100000 in
set_option maxHeartbeats 2000000 in
theorem rising_c (L : List Int) (A : Option Addr) (n c : Nat) (w : World) (hr : Sl.Rds w 1 A n (L.flatMap fun n => [.int .i64 n])) :
    Calls Try.prog 23 #[.slice A n c] w fun e w' => e = .returned (.bool (rises (-1) L)) ∧ Below w.heap.size w w' := by
  obtain rfl := hr.length (fun _ => rfl) (by omega)
  have hle := hr.le
  have Hr := K.H.mk hr
  clear hr
  obtain ⟨R, hR⟩ : ∃ R, R = rises (-1) L := ⟨_, rfl⟩
  rw [← hR]
  have HR := K.H.mk hR
  clear hR
  go_enter Try.func23, Try.ntmps23
  go_wp2
  go_loopw [3] (fun i wr => ∃ (k : Nat) (t : Int), k ≤ L.length ∧ i = .int .i64 k ∧ K.H (Below w.heap.size w wr) ∧ K.H (R = rises t (L.drop k)) ∧ K.H ((k = 0 ∧ t = -1) ∨ (0 < k ∧ L[k - 1]? = some t ∧ 0 ≤ t))) (fun i _ => L.length - (intOf i).toNat)
  case atStart => exact ⟨0, -1, by omega, rfl, ⟨Below.refl _ _⟩, HR, ⟨.inl ⟨rfl, rfl⟩⟩⟩
  case round =>
    obtain ⟨k, t, hk, rfl, Hb, HT, HC⟩ := hrel
    have hsz := Hb.out.size
    by_cases hlt : k < L.length
    · obtain ⟨x, hx⟩ : ∃ x, L[k]? = some x := ⟨_, List.getElem?_eq_getElem hlt⟩
      have hdr : L.drop k = x :: L.drop (k + 1) := by rw [List.drop_eq_getElem_cons hlt]; congr 1; exact (List.getElem?_eq_some_iff.1 hx).2
      have HS := K.H.mk (show R = (decide (t < x) && rises x (L.drop (k + 1))) by rw [HT.out, hdr]; rfl)
      have HX := K.H.mk hx
      obtain ⟨b, off, rfl, hbl, hbc⟩ := Sl.Rds.elem Hr.out (enc := fun n => [.int .i64 n]) (fun _ => rfl) (by omega) hx
      have q_0 : wr.cell? ⟨b, off + k, none⟩ = some (.int .i64 x) := by
        have := (Hb.out.cell (p := ⟨b, off + k * 1 + 0, none⟩) hbl).trans (hbc 0 (by omega))
        simpa using this
      have hbw : b < wr.heap.size := Nat.lt_of_lt_of_le hbl Hb.out.size
      clear hx hbc hdr HT
      by_cases hx0 : x < 0
      · have d1 : decide (x < 0) = true := decide_eq_true hx0
        have HN := K.H.mk (show R = false by rw [HS.out, decide_eq_false (by rcases HC.out with ⟨_, h⟩ | ⟨_, _, h⟩ <;> omega), Bool.false_and])
        clear HS HC HX HR hx0
        go_wp2
        refine K.wp_region_ext_lit (by kernel_rfl) (by kernel_rfl) ?_
        repeat (any_goals (first | go_big_quiet_skip | quiet_step (fail) | (refine wpQuiet_step (fun K hK => ?_); go_simp; split <;> (refine hK _ ?_; clear hK K))))
        all_goals (refine wpQuiet_nil ?_; intro W9 hW9; obtain ⟨hB9, hC9, hF9, hZ9⟩ := K.ext_facts hW9; clear hW9)
        all_goals go_wp2
        all_goals (go_ret; exact ⟨by rw [HN.out]; rfl, (by repeat (first | (with_reducible exact Below.refl _ _) | (with_reducible exact Hb.out) | (with_reducible refine K.b_bel ?_ (by assumption)) | (with_reducible refine K.b_alloc ?_ _) | (with_reducible refine K.b_drewN ?_ _) | (with_reducible refine K.b_drew ?_) | (with_reducible refine K.b_set ?_ (by first | omega | (simp <;> omega)) _) | (with_reducible refine K.b_only ?_ (by assumption) (by first | omega | (simp <;> omega)))))⟩)
      · have d1 : decide (x < 0) = false := decide_eq_false hx0
        by_cases h0 : k = 0
        · subst h0
          have HN := K.H.mk (show R = rises x (L.drop (0 + 1)) by rw [HS.out, decide_eq_true (by rcases HC.out with ⟨_, h⟩ | ⟨_, _, h⟩ <;> omega), Bool.true_and])
          have HD := K.H.mk (show (0 + 1 = 0 ∧ x = -1) ∨ (0 < 0 + 1 ∧ L[0 + 1 - 1]? = some x ∧ 0 ≤ x) from .inr ⟨by omega, HX.out, by omega⟩)
          have q0 := q_0
          simp only [Nat.add_zero] at q0
          clear HS HC HX HR hx0 q_0
          go_wp2
          refine K.wp_region_ext_lit (by kernel_rfl) (by kernel_rfl) ?_
          repeat (any_goals (first | go_big_quiet_skip | quiet_step (fail) | (refine wpQuiet_step (fun K hK => ?_); go_simp; split <;> (refine hK _ ?_; clear hK K))))
          all_goals (refine wpQuiet_nil ?_; intro W9 hW9; obtain ⟨hB9, hC9, hF9, hZ9⟩ := K.ext_facts hW9; clear hW9)
          all_goals go_wp2
          all_goals
            go_roundw
            case rel => exact ⟨0 + 1, x, by omega, by go_num, ⟨(by repeat (first | (with_reducible exact Below.refl _ _) | (with_reducible exact Hb.out) | (with_reducible refine K.b_bel ?_ (by assumption)) | (with_reducible refine K.b_alloc ?_ _) | (with_reducible refine K.b_drewN ?_ _) | (with_reducible refine K.b_drew ?_) | (with_reducible refine K.b_set ?_ (by first | omega | (simp <;> omega)) _) | (with_reducible refine K.b_only ?_ (by assumption) (by first | omega | (simp <;> omega)))))⟩, HN, HD⟩
            case measure => simp [intOf]; omega
        · obtain ⟨hy, ht0⟩ : L[k - 1]? = some t ∧ 0 ≤ t := by
            rcases HC.out with ⟨h, _⟩ | ⟨_, h1, h2⟩
            · omega
            · exact ⟨h1, h2⟩
          obtain ⟨b2, off2, he2, hbl2, hbc2⟩ := Hr.out.elem (enc := fun n => [iv n]) (fun _ => rfl) (by omega) hy
          cases he2
          have q2 := (Hb.out.cell (p := ⟨b, off + (k - 1) * 1 + 0, none⟩) hbl2).trans (hbc2 0 (by omega))
          simp at q2
          have d0 : decide ((0 : Int) < (k : Int)) = true := decide_eq_true (by omega)
          have d0n : decide (0 < k) = true := decide_eq_true (by omega)
          have hw1 : IntKind.i64.wrap ((k : Int) - 1) = ((k - 1 : Nat) : Int) := by rw [K.i64_in (by omega) (by omega)]; omega
          have hi1 : ((k - 1 : Nat) : Int) < L.length := by omega
          have hi0 : (0 : Int) ≤ ((k - 1 : Nat) : Int) := by omega
          have hkl : (k : Int) < L.length := by omega
          have HD := K.H.mk (show (k + 1 = 0 ∧ x = -1) ∨ (0 < k + 1 ∧ L[k + 1 - 1]? = some x ∧ 0 ≤ x) from .inr ⟨by omega, HX.out, by omega⟩)
          by_cases hxt : x ≤ t
          · have dd : decide (x ≤ t) = true := decide_eq_true hxt
            have HN := K.H.mk (show R = false by rw [HS.out, decide_eq_false (by omega), Bool.false_and])
            clear HS HC HX HR hx0 hy hbc2 h0 hxt HD
            go_wp2
            refine K.wp_region_ext_lit (by kernel_rfl) (by kernel_rfl) ?_
            repeat (any_goals (first | go_big_quiet_skip | quiet_step (fail) | (refine wpQuiet_step (fun K hK => ?_); go_simp; split <;> (refine hK _ ?_; clear hK K))))
            all_goals (refine wpQuiet_nil ?_; intro W9 hW9; obtain ⟨hB9, hC9, hF9, hZ9⟩ := K.ext_facts hW9; clear hW9)
            all_goals go_wp2
            all_goals (go_ret; exact ⟨by rw [HN.out]; rfl, (by repeat (first | (with_reducible exact Below.refl _ _) | (with_reducible exact Hb.out) | (with_reducible refine K.b_bel ?_ (by assumption)) | (with_reducible refine K.b_alloc ?_ _) | (with_reducible refine K.b_drewN ?_ _) | (with_reducible refine K.b_drew ?_) | (with_reducible refine K.b_set ?_ (by first | omega | (simp <;> omega)) _) | (with_reducible refine K.b_only ?_ (by assumption) (by first | omega | (simp <;> omega)))))⟩)
          · have dd : decide (x ≤ t) = false := decide_eq_false hxt
            have HN := K.H.mk (show R = rises x (L.drop (k + 1)) by rw [HS.out, decide_eq_true (by omega), Bool.true_and])
            clear HS HC HX HR hx0 hy hbc2 h0 hxt
            go_wp2
            refine K.wp_region_ext_lit (by kernel_rfl) (by kernel_rfl) ?_
            repeat (any_goals (first | go_big_quiet_skip | quiet_step (fail) | (refine wpQuiet_step (fun K hK => ?_); go_simp; split <;> (refine hK _ ?_; clear hK K))))
            all_goals (refine wpQuiet_nil ?_; intro W9 hW9; obtain ⟨hB9, hC9, hF9, hZ9⟩ := K.ext_facts hW9; clear hW9)
            all_goals go_wp2
            all_goals
              go_roundw
              case rel => exact ⟨k + 1, x, by omega, by go_num, ⟨(by repeat (first | (with_reducible exact Below.refl _ _) | (with_reducible exact Hb.out) | (with_reducible refine K.b_bel ?_ (by assumption)) | (with_reducible refine K.b_alloc ?_ _) | (with_reducible refine K.b_drewN ?_ _) | (with_reducible refine K.b_drew ?_) | (with_reducible refine K.b_set ?_ (by first | omega | (simp <;> omega)) _) | (with_reducible refine K.b_only ?_ (by assumption) (by first | omega | (simp <;> omega)))))⟩, HN, HD⟩
              case measure => simp [intOf]; omega
    · obtain rfl : k = L.length := by omega
      have HN := K.H.mk (show R = true by rw [HT.out, List.drop_length]; rfl)
      clear HT HC HR
      go_wp2
      go_ret
      exact ⟨by rw [HN.out]; rfl, (by repeat (first | (with_reducible exact Below.refl _ _) | (with_reducible exact Hb.out) | (with_reducible refine K.b_bel ?_ (by assumption)) | (with_reducible refine K.b_alloc ?_ _) | (with_reducible refine K.b_drewN ?_ _) | (with_reducible refine K.b_drew ?_) | (with_reducible refine K.b_set ?_ (by first | omega | (simp <;> omega)) _) | (with_reducible refine K.b_only ?_ (by assumption) (by first | omega | (simp <;> omega)))))⟩
end Go.Proofs.Ytpafbjffecpdmaa.Sb
