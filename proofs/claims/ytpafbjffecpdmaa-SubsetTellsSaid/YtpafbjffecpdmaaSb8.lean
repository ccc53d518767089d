/- Subset: 'has'; the page's example; SubsetSome: the walk. -/
import Derived.Test.YtpafbjffecpdmaaSb7
set_option linter.unusedVariables false
namespace Go.Proofs.Ytpafbjffecpdmaa.Sb
open Go.RowKit Go.Proofs.Ytpafbjffecpdmaa
attribute [local go_sem] K.max2_int K.min2_int K.max_two K.min_two K.max_three K.min_three
set_option linter.unusedSimpArgs false
set_option maxRecDepth 100000 in
set_option maxHeartbeats 2000000 in
theorem has_c (xs : List Int) (y : Int) (A : Option Addr) (n c : Nat) (w : World) (hr : Sl.Rds w 1 A n (xs.flatMap fun n => [.int .i64 n])) :
    Calls Try.prog 12 #[.slice A n c, .int .i64 y] w fun e w' => e = .returned (.bool (hasB xs y)) ∧ w' = w := by
  obtain rfl := hr.length (fun _ => rfl) (by omega)
  have hle := hr.le
  have Hr := K.H.mk hr
  obtain ⟨R, hR⟩ : ∃ R, R = hasB xs y := ⟨_, rfl⟩
  have HR := K.H.mk hR
  rw [← hR]
  clear hr hR
  go_enter Try.func12, Try.ntmps12
  go_wp2
  go_loop [5] (fun i => ∃ k : Nat, k ≤ xs.length ∧ i = .int .i64 k ∧ K.H (∀ j z, j < k → xs[j]? = some z → z ≠ y)) (fun i => xs.length - (intOf i).toNat)
  case atStart => exact ⟨0, by omega, rfl, ⟨fun j z h => by omega⟩⟩
  case round =>
    obtain ⟨k, hk, rfl, Hf⟩ := hrel
    by_cases hlt : k < xs.length
    · obtain ⟨x, hx⟩ : ∃ x, xs[k]? = some x := ⟨_, List.getElem?_eq_getElem hlt⟩
      obtain ⟨b, off, rfl, hbl, hbc⟩ := Sl.Rds.elem Hr.out (enc := fun n => [.int .i64 n]) (fun _ => rfl) (by omega) hx
      have q_0 : w.cell? ⟨b, off + k, none⟩ = some (.int .i64 x) := by
        have := ((Below.refl _ _ : Below w.heap.size w w).cell (p := ⟨b, off + k * 1 + 0, none⟩) hbl).trans (hbc 0 (by omega))
        simpa using this
      have Hx := K.H.mk hx
      clear hx hbc
      cases hc : (x == y)
      · have Hc := K.H.mk hc
        go_wp2
        go_round
        case rel =>
          refine ⟨k + 1, by omega, by go_num, ⟨fun j z hj hz => ?_⟩⟩
          by_cases hjk : j = k
          · subst hjk; rw [Hx.out] at hz; cases hz; simpa using Hc.out
          · exact Hf.out j z (by omega) hz
        case measure => simp [intOf]; omega
      · have HN := K.H.mk (show R = true by rw [HR.out, hasB_iff]; have : x = y := by simpa using hc
                                            exact this ▸ List.mem_of_getElem? Hx.out)
        go_wp2
        go_ret
        exact ⟨K.ret_bool HN.out.symm, rfl⟩
    · obtain rfl : k = xs.length := by omega
      have HN := K.H.mk (show R = false by
        rw [HR.out, hasB_f]; intro hm
        obtain ⟨j, hj⟩ := List.getElem?_of_mem hm
        exact Hf.out j y (List.getElem?_eq_some_iff.1 hj).1 hj rfl)
      go_wp2
      go_ret
      exact ⟨K.ret_bool HN.out.symm, rfl⟩
theorem num_c (a : Int) (w : World) : Calls Try.prog 11 #[.int .i64 a] w fun e w' => e = .returned (.int .i64 a) ∧ w' = w := by
  go_enter Try.func11, Try.ntmps11
  go_wp2
  go_ret
  exact ⟨rfl, rfl⟩
theorem own_rds {w : World} {base sz n c : Nat} {e : TypeId} {A : Option Addr} {cs : List Value} (h : w.ownsRow base e sz (.slice A n c) n cs) : Sl.Rds w sz A n cs := by
  obtain ⟨_, _, he, hR⟩ := Sl.Rds.of_own h; cases he; exact hR
theorem rds_alloc {w : World} {sz n : Nat} {A : Option Addr} {cs : List Value} (h : Sl.Rds w sz A n cs) (o : Obj) : Sl.Rds (w.alloc o) sz A n cs := h.below (K.b_alloc (Below.refl _ _) o)
theorem rds_lit (w : World) (g : Nat) (xs : List Int) (h : K.At w g 3 (xs.map (Value.int .i64)).toArray) (hl : xs.length ≤ maxLen) : Sl.Rds w 1 (some ⟨g, 0, none⟩) xs.length (xs.flatMap fun n => [.int .i64 n]) := by
  rw [← Sl.map_flat]
  refine ⟨by simp, hl, fun _ => ⟨g, 0, rfl, h.lt, fun j hj => ?_⟩⟩
  rw [Nat.zero_add, h.cell]
  simp
theorem u64_wf {n : Int} (h : (Lit.int .u64 n).wf = true) : 0 ≤ n ∧ n < 18446744073709551616 := by
  simp [Lit.wf, IntKind.min, IntKind.max, IntKind.signed, IntKind.bits] at h
  omega
theorem ex_e : ofE [1, 2, 3] 0 3 = 0 := by decide
theorem ex_l : oOf [1, 2, 3] 0 3 0 = [1, 2, 3] := by
  unfold oOf
  rw [if_pos ex_e]
  unfold ofL
  rw [if_pos (by decide)]
set_option maxRecDepth 100000 in
set_option maxHeartbeats 2000000 in
theorem alive_c (w : World) : Calls Try.prog 9 #[] w fun e w' => e = .returned (.bool true) ∧ Below w.heap.size w w' := by
  have GO := K.H.mk (show ∀ (W : World) (g : Nat), K.At W g 3 #[.int .i64 1, .int .i64 2, .int .i64 3] → Calls Try.prog 10 #[.slice (some ⟨g, 0, none⟩) 3 3, .int .i64 0, .int .i64 3, .int .u64 0] W (OfPost W [1, 2, 3] 0) from fun W g h => by
    have h9 := Of_c [1, 2, 3] 0 3 0 (some ⟨g, 0, none⟩) 3 3 W (rds_lit W g [1, 2, 3] h (by simp [maxLen])) (by omega)
    rw [ex_e, ex_l] at h9; exact h9)
  have GS := K.H.mk (fun (W : World) (g : Nat) (A : Option Addr) (c : Nat) (hA : Sl.Rds W 1 A 3 (([1, 2, 3] : List Int).flatMap fun n => [.int .i64 n])) (h : K.At W g 3 #[.int .i64 1, .int .i64 2, .int .i64 3]) => Sl.same_c [1, 2, 3] [1, 2, 3] A (some ⟨g, 0, none⟩) 3 3 c 3 W hA (rds_lit W g [1, 2, 3] h (by simp [maxLen])))
  rw [show decide (([1, 2, 3] : List Int) = [1, 2, 3]) = true from rfl] at GS
  go_enter Try.func9, Try.ntmps9
  go_wp2_with (first
    | (go_at_call 10; (with_reducible refine (GO.out _ _ ?r1).mono ?_); (case r1 => exact K.At.new' _ _ _ _ (by simp)); rintro e W3 ⟨v3, rfl, hown3, hb3⟩; obtain ⟨hB3, hC3, hF3, hZ3⟩ := K.bel_facts hb3; clear hb3; obtain ⟨A3, c3, rfl, hR3⟩ := Sl.Rds.of_own hown3; rw [← flat_iv] at hR3; have hR4 : Sl.Rds W3 1 A3 3 (([1, 2, 3] : List Int).flatMap fun n => [.int .i64 n]) := hR3; clear hown3 hR3)
    | (go_at_call 16; (with_reducible refine (GS.out _ _ _ _ ?r1 ?r2).mono ?_); (case r1 => exact (by repeat (first | (with_reducible exact hR4) | (with_reducible refine rds_alloc ?_ _)))); (case r2 => exact K.At.new' _ _ _ _ (by simp)); rintro e W4 ⟨rfl, hb4⟩; obtain ⟨hB4, hC4, hF4, hZ4⟩ := K.bel_facts hb4; clear hb4)
    | (go_at_call 11; (with_reducible refine (num_c _ _).mono ?_); rintro e w' ⟨rfl, hw'⟩; have hw'2 := Eq.symm hw'; clear hw'; subst hw'2))
  go_ret
  exact ⟨rfl, (by repeat (first | (with_reducible exact Below.refl _ _) | (with_reducible refine K.b_bel ?_ (by assumption)) | (with_reducible refine K.b_alloc ?_ _) | (with_reducible refine K.b_drewN ?_ _) | (with_reducible refine K.b_drew ?_) | (with_reducible refine K.b_set ?_ (by first | omega | (simp <;> omega)) _) | (with_reducible refine K.b_only ?_ (by assumption) (by first | omega | (simp <;> omega)))))⟩
set_option maxRecDepth 100000 in
set_option maxHeartbeats 4000000 in
theorem Some_c (ids : List Int) (client size : Int) (seed : Nat) (A : Option Addr) (n c : Nat) (w : World) (hr : Sl.Rds w 1 A n (ids.flatMap fun n => [.int .i64 n])) (hs : seed < 18446744073709551616) :
    Calls Try.prog 3 #[.slice A n c, .int .i64 client, .int .i64 size, .int .u64 seed] w fun e w' => e = .returned (.bool true) ∧ Below w.heap.size w w' := by
  obtain rfl := hr.length (fun _ => rfl) (by omega)
  have GO := K.H.mk (fun (W : World) (hb : Below w.heap.size w W) => Of_c ids client size seed A ids.length c W (hr.below hb) hs)
  have GH := K.H.mk (fun (W : World) (y : Int) (hb : Below w.heap.size w W) => has_c ids y A ids.length c W (hr.below hb))
  by_cases he : ofE ids client size = 0
  · obtain ⟨p1, p2, p3⟩ := ofL_some (seed := seed) he
    rw [show oOf ids client size seed = ofL ids client size seed by unfold oOf; rw [if_pos he], he] at GO
    have hl32 := ofL_len (seed := seed) he (ofE_ok he).1
    generalize ofL ids client size seed = L at *
    have H1 := K.H.mk p1
    have H2 := K.H.mk p2
    have d9 : ((L.length : Int) == K.mn size ids.length) = true := by simpa using p3
    have D9 := K.H.mk d9
    clear hr he p1 p2 p3 d9
    go_enter Try.func3, Try.ntmps3
    go_wp2_with (first
      | (go_at_call 9; (with_reducible refine (alive_c _).mono ?_); rintro e W1 ⟨rfl, hb1⟩; obtain ⟨hB1, hC1, hF1, hZ1⟩ := K.bel_facts hb1; clear hb1)
      | (go_at_call 10; (with_reducible refine (GO.out _ (by repeat (first | (with_reducible exact Below.refl _ _) | (with_reducible refine K.b_bel ?_ (by assumption)) | (with_reducible refine K.b_alloc ?_ _) | (with_reducible refine K.b_drewN ?_ _) | (with_reducible refine K.b_drew ?_) | (with_reducible refine K.b_set ?_ (by first | omega | (simp <;> omega)) _) | (with_reducible refine K.b_only ?_ (by assumption) (by first | omega | (simp <;> omega)))))).mono ?_); rintro e W3 ⟨v3, rfl, hown3, hb3⟩; obtain ⟨hB3, hC3, hF3, hZ3⟩ := K.bel_facts hb3; clear hb3; obtain ⟨A3, c3, rfl, hR3⟩ := Sl.Rds.of_own hown3; rw [← flat_iv] at hR3; clear hown3)
      | (go_at_call 11; (with_reducible refine (num_c _ _).mono ?_); rintro e w' ⟨rfl, hw'⟩; have hw'2 := Eq.symm hw'; clear hw'; subst hw'2))
    have hb3 : Below w.heap.size w W3 := (by repeat (first | (with_reducible exact Below.refl _ _) | (with_reducible refine K.b_bel ?_ (by assumption)) | (with_reducible refine K.b_alloc ?_ _) | (with_reducible refine K.b_drewN ?_ _) | (with_reducible refine K.b_drew ?_) | (with_reducible refine K.b_set ?_ (by first | omega | (simp <;> omega)) _) | (with_reducible refine K.b_only ?_ (by assumption) (by first | omega | (simp <;> omega)))))
    have Hb3 := K.H.mk hb3
    have HR3 := K.H.mk hR3
    clear hb3 hR3
    go_loopw [11] (fun i wr => ∃ k : Nat, k ≤ L.length ∧ i = .int .i64 k ∧ K.H (Below W3.heap.size W3 wr)) (fun i _ => L.length - (intOf i).toNat)
    case atStart => exact ⟨0, by omega, rfl, ⟨Below.refl _ _⟩⟩
    case round =>
      obtain ⟨k, hk, rfl, Hb⟩ := hrel
      have Hw := K.H.mk (Hb3.out.trans (Hb.out.mono Hb3.out.size))
      by_cases hlt : k < L.length
      · obtain ⟨x, hx⟩ : ∃ x, L[k]? = some x := ⟨_, List.getElem?_eq_getElem hlt⟩
        have hin : hasB ids x = true := hasB_iff.2 (H1.out x (List.mem_of_getElem? hx))
        have GX := K.H.mk (fun (W : World) (hb : Below wr.heap.size wr W) => GH.out W x (Hw.out.trans (hb.mono Hw.out.size)))
        rw [hin] at GX
        obtain ⟨b, off, rfl, hbl, hbc⟩ := Sl.Rds.elem HR3.out (enc := fun n => [.int .i64 n]) (fun _ => rfl) (by omega) hx
        have q_0 : wr.cell? ⟨b, off + k, none⟩ = some (.int .i64 x) := by
          have := (Hb.out.cell (p := ⟨b, off + k * 1 + 0, none⟩) hbl).trans (hbc 0 (by omega))
          simpa using this
        have hbw : b < wr.heap.size := Nat.lt_of_lt_of_le hbl Hb.out.size
        by_cases h0 : k = 0
        · subst h0
          have q0 := q_0
          simp only [Nat.add_zero] at q0
          clear hx hbc q_0
          go_wp2
          refine K.wp_region_ext_lit (by kernel_rfl) (by kernel_rfl) ?_
          repeat (any_goals (first | go_big_quiet_skip | quiet_step ((go_at_call 12; first | (with_reducible exact K.q_same (GX.out _ (World.ext_below _ _))))) | (refine wpQuiet_step (fun K hK => ?_); go_simp; split <;> (refine hK _ ?_; clear hK K))))
          all_goals (refine wpQuiet_nil ?_; intro W9 hW9; obtain ⟨hB9, hC9, hF9, hZ9⟩ := K.ext_facts hW9; clear hW9)
          go_wp2
          go_roundw
          case rel => exact ⟨0 + 1, by omega, by go_num, ⟨(by repeat (first | (with_reducible exact Below.refl _ _) | (with_reducible exact Hb.out) | (with_reducible refine K.b_bel ?_ (by assumption)) | (with_reducible refine K.b_alloc ?_ _) | (with_reducible refine K.b_drewN ?_ _) | (with_reducible refine K.b_drew ?_) | (with_reducible refine K.b_set ?_ (by first | omega | (simp <;> omega)) _) | (with_reducible refine K.b_only ?_ (by assumption) (by first | omega | (simp <;> omega)))))⟩⟩
          case measure => simp [intOf]; omega
        · obtain ⟨y, hy⟩ : ∃ y, L[k - 1]? = some y := ⟨_, List.getElem?_eq_getElem (by omega)⟩
          have hyx := rises_lt H2.out hy (by rw [show k - 1 + 1 = k by omega]; exact hx)
          obtain ⟨b2, off2, he2, hbl2, hbc2⟩ := HR3.out.elem (enc := fun n => [iv n]) (fun _ => rfl) (by omega) hy
          cases he2
          have q2 := (Hb.out.cell (p := ⟨b, off + (k - 1) * 1 + 0, none⟩) hbl2).trans (hbc2 0 (by omega))
          simp at q2
          have dd : decide (x ≤ y) = false := decide_eq_false (by omega)
          have d0 : decide ((0 : Int) < (k : Int)) = true := decide_eq_true (by omega)
          have d0n : decide (0 < k) = true := decide_eq_true (by omega)
          have hw1 : IntKind.i64.wrap ((k : Int) - 1) = ((k - 1 : Nat) : Int) := by rw [K.i64_in (by omega) (by omega)]; omega
          have hi1 : ((k - 1 : Nat) : Int) < L.length := by omega
          have hi0 : (0 : Int) ≤ ((k - 1 : Nat) : Int) := by omega
          have hkl : (k : Int) < L.length := by omega
          clear hx hbc hy hbc2 hyx h0
          go_wp2
          refine K.wp_region_ext_lit (by kernel_rfl) (by kernel_rfl) ?_
          repeat (any_goals (first | go_big_quiet_skip | quiet_step ((go_at_call 12; first | (with_reducible exact K.q_same (GX.out _ (World.ext_below _ _))))) | (refine wpQuiet_step (fun K hK => ?_); go_simp; split <;> (refine hK _ ?_; clear hK K))))
          all_goals (refine wpQuiet_nil ?_; intro W9 hW9; obtain ⟨hB9, hC9, hF9, hZ9⟩ := K.ext_facts hW9; clear hW9)
          go_wp2
          go_roundw
          case rel => exact ⟨k + 1, by omega, by go_num, ⟨(by repeat (first | (with_reducible exact Below.refl _ _) | (with_reducible exact Hb.out) | (with_reducible refine K.b_bel ?_ (by assumption)) | (with_reducible refine K.b_alloc ?_ _) | (with_reducible refine K.b_drewN ?_ _) | (with_reducible refine K.b_drew ?_) | (with_reducible refine K.b_set ?_ (by first | omega | (simp <;> omega)) _) | (with_reducible refine K.b_only ?_ (by assumption) (by first | omega | (simp <;> omega)))))⟩⟩
          case measure => simp [intOf]; omega
      · obtain rfl : k = L.length := by omega
        have d9 := D9.out
        go_wp2
        go_ret
        exact ⟨rfl, Hw.out⟩
  · have hd : (ofE ids client size != 0) = true := by simpa using he
    rw [show oOf ids client size seed = [] by unfold oOf; rw [if_neg he]] at GO
    generalize ofE ids client size = er at *
    clear hr he
    go_enter Try.func3, Try.ntmps3
    go_wp2_with (first
      | (go_at_call 9; (with_reducible refine (alive_c _).mono ?_); rintro e W1 ⟨rfl, hb1⟩; obtain ⟨hB1, hC1, hF1, hZ1⟩ := K.bel_facts hb1; clear hb1)
      | (go_at_call 10; (with_reducible refine (GO.out _ (by repeat (first | (with_reducible exact Below.refl _ _) | (with_reducible refine K.b_bel ?_ (by assumption)) | (with_reducible refine K.b_alloc ?_ _) | (with_reducible refine K.b_drewN ?_ _) | (with_reducible refine K.b_drew ?_) | (with_reducible refine K.b_set ?_ (by first | omega | (simp <;> omega)) _) | (with_reducible refine K.b_only ?_ (by assumption) (by first | omega | (simp <;> omega)))))).mono ?_); rintro e W3 ⟨v3, rfl, hown3, hb3⟩; obtain ⟨hB3, hC3, hF3, hZ3⟩ := K.bel_facts hb3; clear hb3; obtain ⟨A3, c3, rfl, hR3⟩ := Sl.Rds.of_own hown3; clear hown3)
      | (go_at_call 11; (with_reducible refine (num_c _ _).mono ?_); rintro e w' ⟨rfl, hw'⟩; have hw'2 := Eq.symm hw'; clear hw'; subst hw'2))
    go_ret
    exact ⟨rfl, (by repeat (first | (with_reducible exact Below.refl _ _) | (with_reducible refine K.b_bel ?_ (by assumption)) | (with_reducible refine K.b_alloc ?_ _) | (with_reducible refine K.b_drewN ?_ _) | (with_reducible refine K.b_drew ?_) | (with_reducible refine K.b_set ?_ (by first | omega | (simp <;> omega)) _) | (with_reducible refine K.b_only ?_ (by assumption) (by first | omega | (simp <;> omega)))))⟩
theorem SomeI (ids : List Int) (client size seed : Int) (A : Option Addr) (n c : Nat) (w : World) (hr : Sl.Rds w 1 A n (ids.flatMap fun n => [.int .i64 n])) (hs : (Lit.int .u64 seed).wf = true) :
    Calls Try.prog 3 #[.slice A n c, .int .i64 client, .int .i64 size, .int .u64 seed] w fun e w' => e = .returned (.bool true) ∧ Below w.heap.size w w' := by
  obtain ⟨h0, h1⟩ := u64_wf hs
  obtain ⟨s, rfl⟩ := Int.eq_ofNat_of_zero_le h0
  exact Some_c ids client size s A n c w hr (by omega)
end Go.Proofs.Ytpafbjffecpdmaa.Sb
