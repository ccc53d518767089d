/- Ring: the walk of RingWalks. -/
import Derived.Test.YtkalbiihehcjkaaRg31
import Derived.Test.YtkalbiihehcjkaaRg22
set_option linter.unusedVariables false
namespace Go.Proofs.Ytkalbiihehcjkaa.Rg
open Go.RowKit Go.Proofs.Ytkalbiihehcjkaa
set_option linter.unusedSimpArgs false
theorem flat_i (L : List Int) : L.map (Value.int .i64) = L.flatMap fun n => [.int .i64 n] := Sl.map_flat _ _
set_option maxRecDepth 100000 in
set_option maxHeartbeats 8000000 in
theorem Walks_c (l : List Pt) (h : Int) (A : Option Addr) (n c : Nat) (w : World) (hr : Sl.Rds w 2 A n (l.flatMap Pt.cs)) (hwf : ∀ x ∈ l, (Lit.int .i64 x.i).wf = true) :
    Calls Try.prog 6 #[.slice A n c, .int .u64 h] w fun e w' => e = .returned (.bool true) ∧ Below w.heap.size w w' := by
  obtain rfl := hr.length Pt.cs_len (by omega)
  have hle := hr.le
  have GL := K.H.mk (fun (W : World) => alive_c W)
  have GW := K.H.mk (fun (W : World) (hb : Below w.heap.size w W) => Walk_c l h A l.length c W (hr.below hb) hwf)
  have GK := K.H.mk (fun (W : World) (hb : Below w.heap.size w W) => Lookup_c l h A l.length c W (hr.below hb))
  have Hr := K.H.mk hr
  clear hr hwf
  by_cases he : eAsk l = 0
  · have hWl := walk_len (l := l) (h := h)
    obtain ⟨_, h2, h3, _⟩ := eAsk_ok he
    have HN := K.H.mk (walk_nodup l h)
    have HM := K.H.mk (fun (q : Pt) (hq : q ∈ l) => (walk_mem (h := h) he).2 ⟨q, hq, rfl⟩)
    have HH := K.H.mk (walk_head (h := h) he)
    have hL0 : 0 < (oWalk l h).length := (List.getElem?_eq_some_iff.1 (walk_head (h := h) he)).1
    rw [he] at GW GK
    generalize oWalk l h = L at *
    generalize oLook l h = id at *
    clear he
    go_enter Try.func6, Try.ntmps6
    go_wp2_with (first
      | (go_at_call 9; (with_reducible refine (GL.out _).mono ?_); rintro e W1 ⟨rfl, hb1⟩; obtain ⟨hB1, hC1, hF1, hZ1⟩ := K.bel_facts hb1; clear hb1)
      | (go_at_call 16; (with_reducible refine (GW.out _ (by repeat (first | (with_reducible exact Below.refl _ _) | (with_reducible refine K.b_bel ?_ (by assumption)) | (with_reducible refine K.b_alloc ?_ _) | (with_reducible refine K.b_drewN ?_ _) | (with_reducible refine K.b_drew ?_) | (with_reducible refine K.b_set ?_ (by first | omega | (simp <;> omega)) _) | (with_reducible refine K.b_only ?_ (by assumption) (by first | omega | (simp <;> omega)))))).mono ?_); rintro e W3 ⟨v3, rfl, hown3, hb3⟩; obtain ⟨hB3, hC3, hF3, hZ3⟩ := K.bel_facts hb3; clear hb3; obtain ⟨B3, d3, rfl, hR3⟩ := Sl.Rds.of_own hown3; rw [flat_i] at hR3; clear hown3)
      | (go_at_call 15; (with_reducible refine (GK.out _ (by repeat (first | (with_reducible exact Below.refl _ _) | (with_reducible refine K.b_bel ?_ (by assumption)) | (with_reducible refine K.b_alloc ?_ _) | (with_reducible refine K.b_drewN ?_ _) | (with_reducible refine K.b_drew ?_) | (with_reducible refine K.b_set ?_ (by first | omega | (simp <;> omega)) _) | (with_reducible refine K.b_only ?_ (by assumption) (by first | omega | (simp <;> omega)))))).mono ?_); rintro e W4 ⟨rfl, hb4⟩; obtain ⟨hB4, hC4, hF4, hZ4⟩ := K.bel_facts hb4; clear hb4)
      | (go_at_call 11; (with_reducible refine (num_c _ _).mono ?_); rintro e w' ⟨rfl, hw'⟩; have hw'2 := Eq.symm hw'; clear hw'; subst hw'2))
    have Hb4 := K.H.mk (show Below w.heap.size w W4 from (by repeat (first | (with_reducible exact Below.refl _ _) | (with_reducible refine K.b_bel ?_ (by assumption)) | (with_reducible refine K.b_alloc ?_ _) | (with_reducible refine K.b_drewN ?_ _) | (with_reducible refine K.b_drew ?_) | (with_reducible refine K.b_set ?_ (by first | omega | (simp <;> omega)) _) | (with_reducible refine K.b_only ?_ (by assumption) (by first | omega | (simp <;> omega))))))
    have HR4 := K.H.mk (hR3.below hB4.out)
    clear hR3 GW GK GL
    ((try clear 1); (try clear 3); (try clear 4))
    go_loopw [9] (fun i wr => ∃ k : Nat, k ≤ L.length ∧ i = .int .i64 k ∧ K.H (Below w.heap.size w wr ∧ Below W4.heap.size W4 wr)) (fun i _ => L.length - (intOf i).toNat)
    case atStart => exact ⟨0, by omega, rfl, ⟨Hb4.out, Below.refl _ _⟩⟩
    case round =>
      obtain ⟨i, hi, rfl, Hb⟩ := hrel
      by_cases hlt : i < L.length
      · obtain ⟨x, hx⟩ : ∃ x, L[i]? = some x := ⟨_, List.getElem?_eq_getElem hlt⟩
        have HX := K.H.mk hx
        have hil : (i : Int) < (L.length : Int) := by omega
        clear hx
        go_wp2
        go_loopw [10] (fun m wr => ∃ k : Nat, k ≤ i ∧ m = .int .i64 k ∧ K.H (Below w.heap.size w wr ∧ Below W4.heap.size W4 wr)) (fun m _ => i - (intOf m).toNat)
        case atStart => exact ⟨0, by omega, rfl, Hb⟩
        case round =>
          clear Hb
          obtain ⟨k, hk, rfl, Hb⟩ := hrel
          by_cases hki : k < i
          · obtain ⟨y, hy⟩ : ∃ y, L[k]? = some y := ⟨_, List.getElem?_eq_getElem (by omega)⟩
            have hne : (x == y) = false := by
              rw [beq_eq_false_iff_ne]
              rintro rfl
              have h5 := List.getElem?_eq_some_iff.1 HX.out
              have h6 := List.getElem?_eq_some_iff.1 hy
              have h7 := List.pairwise_iff_getElem.1 HN.out k i h6.1 h5.1 hki
              exact h7 (h6.2.trans h5.2.symm)
            obtain ⟨b, off, rfl, hbl, hbc⟩ := Sl.Rds.elem HR4.out (enc := fun n => [.int .i64 n]) (fun _ => rfl) (by omega) HX.out
            have q_0 : wr.cell? ⟨b, off + i, none⟩ = some (.int .i64 x) := by
              have := (Hb.out.2.cell (p := ⟨b, off + i * 1 + 0, none⟩) hbl).trans (hbc 0 (by omega))
              simpa using this
            obtain ⟨b5, off5, hee5, hbl5, hbc5⟩ := Sl.Rds.elem HR4.out (enc := fun n => [.int .i64 n]) (fun _ => rfl) (by omega) hy
            cases hee5
            have q5_0 : wr.cell? ⟨b, off + k, none⟩ = some (.int .i64 y) := by
              have := (Hb.out.2.cell (p := ⟨b, off + k * 1 + 0, none⟩) hbl5).trans (hbc5 0 (by omega))
              simpa using this
            clear hbc5
            have hkl : (k : Int) < (L.length : Int) := by omega
            have hbw : b < wr.heap.size := Nat.lt_of_lt_of_le hbl Hb.out.2.size
            have hk0 : (0 : Int) ≤ (k : Int) := by omega
            have hi0 : (0 : Int) ≤ (i : Int) := by omega
            clear hbc hy
            go_wp2
            refine K.wp_region_ext_lit (by kernel_rfl) (by kernel_rfl) ?_
            repeat (any_goals (first | go_big_quiet_skip | quiet_step (fail) | (refine wpQuiet_step (fun K hK => ?_); go_simp; split <;> (refine hK _ ?_; clear hK K))))
            all_goals (refine wpQuiet_nil ?_; intro W9 hW9; obtain ⟨hB9, hC9, hF9, hZ9⟩ := K.ext_facts hW9; clear hW9)
            go_wp2
            go_roundw
            case rel => exact ⟨k + 1, by omega, by go_num, ⟨(by repeat (first | (with_reducible exact Below.refl _ _) | (with_reducible exact Hb.out.1) | (with_reducible refine K.b_bel ?_ (by assumption)) | (with_reducible refine K.b_alloc ?_ _) | (with_reducible refine K.b_drewN ?_ _) | (with_reducible refine K.b_drew ?_) | (with_reducible refine K.b_set ?_ (by first | omega | (simp <;> omega)) _) | (with_reducible refine K.b_only ?_ (by assumption) (by first | omega | (simp <;> omega))))), (by repeat (first | (with_reducible exact Below.refl _ _) | (with_reducible exact Hb.out.2) | (with_reducible refine K.b_bel ?_ (by assumption)) | (with_reducible refine K.b_alloc ?_ _) | (with_reducible refine K.b_drewN ?_ _) | (with_reducible refine K.b_drew ?_) | (with_reducible refine K.b_set ?_ (by first | omega | (simp <;> omega)) _) | (with_reducible refine K.b_only ?_ (by assumption) (by first | omega | (simp <;> omega)))))⟩⟩
            case measure => simp [intOf]; omega
          · obtain rfl : k = i := by omega
            go_wp2
            go_roundw
            case rel => exact ⟨k + 1, by omega, by go_num, Hb⟩
            case measure => simp [intOf]; omega
      · obtain rfl : i = L.length := by omega
        go_wp2
        go_loopw [11] (fun i wr => ∃ k : Nat, k ≤ l.length ∧ i = .int .i64 k ∧ K.H (Below w.heap.size w wr ∧ Below W4.heap.size W4 wr)) (fun i _ => l.length - (intOf i).toNat)
        case atStart => exact ⟨0, by omega, rfl, Hb⟩
        case round =>
          clear Hb
          obtain ⟨i, hi, rfl, Hb⟩ := hrel
          by_cases hlt : i < l.length
          · obtain ⟨x, hx⟩ : ∃ x, l[i]? = some x := ⟨_, List.getElem?_eq_getElem hlt⟩
            have HX := K.H.mk hx
            have HMx := K.H.mk (HM.out x (List.mem_of_getElem? hx))
            have hil : (i : Int) < (l.length : Int) := by omega
            clear hx
            go_wp2
            go_loopw [12, 13] (fun f m wr => ∃ (k : Nat) (fd : Bool), k ≤ L.length ∧ f = .bool fd ∧ m = .int .i64 k ∧ K.H (fd = decide (x.i ∈ L.take k)) ∧ K.H (Below w.heap.size w wr ∧ Below W4.heap.size W4 wr)) (fun _ m _ => L.length - (intOf m).toNat)
            case atStart => exact ⟨0, false, by omega, rfl, rfl, ⟨by simp⟩, Hb⟩
            case round =>
              clear Hb
              obtain ⟨k, fd, hk, rfl, rfl, HF, Hb⟩ := hrel
              by_cases hki : k < L.length
              · obtain ⟨y, hy⟩ : ∃ y, L[k]? = some y := ⟨_, List.getElem?_eq_getElem hki⟩
                have HF2 := K.H.mk (show (fd || (y == x.i)) = decide (x.i ∈ L.take (k + 1)) by
                  rw [HF.out, List.take_add_one, hy, Bool.eq_iff_iff]
                  simp only [Bool.or_eq_true, decide_eq_true_eq, beq_iff_eq, List.mem_append, Option.toList_some, List.mem_singleton]
                  exact ⟨fun h => h.elim .inl (fun h => .inr h.symm), fun h => h.elim .inl (fun h => .inr h.symm)⟩)
                obtain ⟨b, off, rfl, hbl, hbc⟩ := Sl.Rds.elem Hr.out Pt.cs_len (by omega) HX.out
                have q_0 : wr.cell? ⟨b, off + i * 2, none⟩ = some (.int .u64 x.h) := (Hb.out.1.cell (p := ⟨b, off + i * 2 + 0, none⟩) hbl).trans (hbc 0 (by omega))
                have q_1 : wr.cell? ⟨b, off + i * 2 + 1, none⟩ = some (.int .i64 x.i) := (Hb.out.1.cell (p := ⟨b, off + i * 2 + 1, none⟩) hbl).trans (hbc 1 (by omega))
                clear hbc
                obtain ⟨b5, off5, rfl, hbl5, hbc5⟩ := Sl.Rds.elem HR4.out (enc := fun n => [.int .i64 n]) (fun _ => rfl) (by omega) hy
                have q5_0 : wr.cell? ⟨b5, off5 + k, none⟩ = some (.int .i64 y) := by
                  have := (Hb.out.2.cell (p := ⟨b5, off5 + k * 1 + 0, none⟩) hbl5).trans (hbc5 0 (by omega))
                  simpa using this
                have hkl : (k : Int) < (L.length : Int) := by omega
                have hbw : b < wr.heap.size := Nat.lt_of_lt_of_le hbl Hb.out.1.size
                have hbw5 : b5 < wr.heap.size := Nat.lt_of_lt_of_le hbl5 Hb.out.2.size
                have hk0 : (0 : Int) ≤ (k : Int) := by omega
                have hi0 : (0 : Int) ≤ (i : Int) := by omega
                clear hbc5 hy HF
                cases fd
                · have HE := K.H.mk (Bool.false_or (y == x.i))
                  rw [HE.out] at HF2
                  go_wp2
                  refine K.wp_region_ext_lit (by kernel_rfl) (by kernel_rfl) ?_
                  repeat (any_goals (first | go_big_quiet_skip | quiet_step (fail) | (refine wpQuiet_step (fun K hK => ?_); go_simp; split <;> (refine hK _ ?_; clear hK K))))
                  all_goals (refine wpQuiet_nil ?_; intro W9 hW9; obtain ⟨hB9, hC9, hF9, hZ9⟩ := K.ext_facts hW9; clear hW9)
                  go_wp2
                  go_roundw
                  case rel => exact ⟨k + 1, _, by omega, rfl, by go_num, HF2, ⟨(by repeat (first | (with_reducible exact Below.refl _ _) | (with_reducible exact Hb.out.1) | (with_reducible refine K.b_bel ?_ (by assumption)) | (with_reducible refine K.b_alloc ?_ _) | (with_reducible refine K.b_drewN ?_ _) | (with_reducible refine K.b_drew ?_) | (with_reducible refine K.b_set ?_ (by first | omega | (simp <;> omega)) _) | (with_reducible refine K.b_only ?_ (by assumption) (by first | omega | (simp <;> omega))))), (by repeat (first | (with_reducible exact Below.refl _ _) | (with_reducible exact Hb.out.2) | (with_reducible refine K.b_bel ?_ (by assumption)) | (with_reducible refine K.b_alloc ?_ _) | (with_reducible refine K.b_drewN ?_ _) | (with_reducible refine K.b_drew ?_) | (with_reducible refine K.b_set ?_ (by first | omega | (simp <;> omega)) _) | (with_reducible refine K.b_only ?_ (by assumption) (by first | omega | (simp <;> omega)))))⟩⟩
                  case measure => simp [intOf]; omega
                · have HE := K.H.mk (Bool.true_or (y == x.i))
                  rw [HE.out] at HF2
                  go_wp2
                  refine K.wp_region_ext_lit (by kernel_rfl) (by kernel_rfl) ?_
                  repeat (any_goals (first | go_big_quiet_skip | quiet_step (fail) | (refine wpQuiet_step (fun K hK => ?_); go_simp; split <;> (refine hK _ ?_; clear hK K))))
                  all_goals (refine wpQuiet_nil ?_; intro W9 hW9; obtain ⟨hB9, hC9, hF9, hZ9⟩ := K.ext_facts hW9; clear hW9)
                  go_wp2
                  go_roundw
                  case rel => exact ⟨k + 1, _, by omega, rfl, by go_num, HF2, ⟨(by repeat (first | (with_reducible exact Below.refl _ _) | (with_reducible exact Hb.out.1) | (with_reducible refine K.b_bel ?_ (by assumption)) | (with_reducible refine K.b_alloc ?_ _) | (with_reducible refine K.b_drewN ?_ _) | (with_reducible refine K.b_drew ?_) | (with_reducible refine K.b_set ?_ (by first | omega | (simp <;> omega)) _) | (with_reducible refine K.b_only ?_ (by assumption) (by first | omega | (simp <;> omega))))), (by repeat (first | (with_reducible exact Below.refl _ _) | (with_reducible exact Hb.out.2) | (with_reducible refine K.b_bel ?_ (by assumption)) | (with_reducible refine K.b_alloc ?_ _) | (with_reducible refine K.b_drewN ?_ _) | (with_reducible refine K.b_drew ?_) | (with_reducible refine K.b_set ?_ (by first | omega | (simp <;> omega)) _) | (with_reducible refine K.b_only ?_ (by assumption) (by first | omega | (simp <;> omega)))))⟩⟩
                  case measure => simp [intOf]; omega
              · obtain rfl : k = L.length := by omega
                have hfd : fd = true := by rw [HF.out, List.take_length]; exact decide_eq_true HMx.out
                subst hfd
                go_wp2
                go_roundw
                case rel => exact ⟨i + 1, by omega, by go_num, Hb⟩
                case measure => simp [intOf]; omega
          · obtain rfl : i = l.length := by omega
            obtain ⟨b5, off5, rfl, hbl5, hbc5⟩ := Sl.Rds.elem HR4.out (enc := fun n => [.int .i64 n]) (fun _ => rfl) (by omega) HH.out
            have q5_0 : wr.cell? ⟨b5, off5 + 0, none⟩ = some (.int .i64 id) := by
              have := (Hb.out.2.cell (p := ⟨b5, off5 + 0 * 1 + 0, none⟩) hbl5).trans (hbc5 0 (by omega))
              simpa using this
            have hL0i : decide ((0 : Int) < (L.length : Int)) = true := decide_eq_true (by omega)
            have hL0n : decide (0 < L.length) = true := decide_eq_true (by omega)
            have hL1 : (0 : Int) < (L.length : Int) := by omega
            have hbw5 : b5 < wr.heap.size := Nat.lt_of_lt_of_le hbl5 Hb.out.2.size
            have hee : (id == id) = true := by simp
            simp only [Nat.add_zero] at q5_0
            clear hbc5
            go_wp2
            go_ret
            exact ⟨rfl, (by repeat (first | (with_reducible exact Below.refl _ _) | (with_reducible exact Hb.out.1) | (with_reducible refine K.b_bel ?_ (by assumption)) | (with_reducible refine K.b_alloc ?_ _) | (with_reducible refine K.b_drewN ?_ _) | (with_reducible refine K.b_drew ?_) | (with_reducible refine K.b_set ?_ (by first | omega | (simp <;> omega)) _) | (with_reducible refine K.b_only ?_ (by assumption) (by first | omega | (simp <;> omega)))))⟩
  · have hd : (eAsk l != 0) = true := by simpa using he
    have hq : (eAsk l != eAsk l) = false := by simp
    have hq2 : (eAsk l == eAsk l) = true := by simp
    rw [show oWalk l h = [] from walk_nil he] at GW
    generalize eAsk l = er at *
    generalize oLook l h = id at *
    clear he
    go_enter Try.func6, Try.ntmps6
    go_wp2_with (first
      | (go_at_call 9; (with_reducible refine (GL.out _).mono ?_); rintro e W1 ⟨rfl, hb1⟩; obtain ⟨hB1, hC1, hF1, hZ1⟩ := K.bel_facts hb1; clear hb1)
      | (go_at_call 16; (with_reducible refine (GW.out _ (by repeat (first | (with_reducible exact Below.refl _ _) | (with_reducible refine K.b_bel ?_ (by assumption)) | (with_reducible refine K.b_alloc ?_ _) | (with_reducible refine K.b_drewN ?_ _) | (with_reducible refine K.b_drew ?_) | (with_reducible refine K.b_set ?_ (by first | omega | (simp <;> omega)) _) | (with_reducible refine K.b_only ?_ (by assumption) (by first | omega | (simp <;> omega)))))).mono ?_); rintro e W3 ⟨v3, rfl, hown3, hb3⟩; obtain ⟨hB3, hC3, hF3, hZ3⟩ := K.bel_facts hb3; clear hb3; obtain ⟨B3, d3, rfl, hR3⟩ := Sl.Rds.of_own hown3; rw [flat_i] at hR3; clear hown3)
      | (go_at_call 15; (with_reducible refine (GK.out _ (by repeat (first | (with_reducible exact Below.refl _ _) | (with_reducible refine K.b_bel ?_ (by assumption)) | (with_reducible refine K.b_alloc ?_ _) | (with_reducible refine K.b_drewN ?_ _) | (with_reducible refine K.b_drew ?_) | (with_reducible refine K.b_set ?_ (by first | omega | (simp <;> omega)) _) | (with_reducible refine K.b_only ?_ (by assumption) (by first | omega | (simp <;> omega)))))).mono ?_); rintro e W4 ⟨rfl, hb4⟩; obtain ⟨hB4, hC4, hF4, hZ4⟩ := K.bel_facts hb4; clear hb4)
      | (go_at_call 11; (with_reducible refine (num_c _ _).mono ?_); rintro e w' ⟨rfl, hw'⟩; have hw'2 := Eq.symm hw'; clear hw'; subst hw'2))
    go_ret
    exact ⟨rfl, (by repeat (first | (with_reducible exact Below.refl _ _) | (with_reducible refine K.b_bel ?_ (by assumption)) | (with_reducible refine K.b_alloc ?_ _) | (with_reducible refine K.b_drewN ?_ _) | (with_reducible refine K.b_drew ?_) | (with_reducible refine K.b_set ?_ (by first | omega | (simp <;> omega)) _) | (with_reducible refine K.b_only ?_ (by assumption) (by first | omega | (simp <;> omega)))))⟩
end Go.Proofs.Ytkalbiihehcjkaa.Rg
