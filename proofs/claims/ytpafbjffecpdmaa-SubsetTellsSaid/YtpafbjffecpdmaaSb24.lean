/- Subset: the reference's Counts. -/
import Derived.Test.YtpafbjffecpdmaaSb15
import Derived.Test.YtpafbjffecpdmaaSb23
set_option linter.unusedVariables false
namespace Go.Proofs.Ytpafbjffecpdmaa.Sb
open Go.RowKit Go.Proofs.Ytpafbjffecpdmaa
attribute [local go_sem] K.max2_int K.min2_int K.max_two K.min_two K.max_three K.min_three
set_option linter.unusedSimpArgs false
def incN (ids L O : List Int) : Nat → List Int
  | 0 => O
  | j + 1 => if hasB L (ids.getD j 0) = true then bump (incN ids L O j) j else incN ids L O j
theorem incN_len (ids L O : List Int) : ∀ j, (incN ids L O j).length = O.length
  | 0 => rfl
  | j + 1 => by
    unfold incN
    split
    · rw [bump_len]; exact incN_len ids L O j
    · exact incN_len ids L O j
theorem incN_at (ids L O : List Int) (i : Nat) : ∀ j, j ≤ O.length → (incN ids L O j).getD i 0 = O.getD i 0 + (if i < j ∧ ids.getD i 0 ∈ L then 1 else 0)
  | 0, _ => by simp [incN]
  | j + 1, h => by
    have ih := incN_at ids L O i j (by omega)
    unfold incN
    by_cases hc : hasB L (ids.getD j 0) = true
    · rw [if_pos hc, bump_getD _ (by rw [incN_len]; omega), ih]
      rw [hasB_iff] at hc
      by_cases he : i = j
      · subst he; rw [if_pos rfl, if_neg (by omega), if_pos ⟨by omega, hc⟩]; omega
      · rw [if_neg he]
        by_cases h2 : i < j ∧ ids.getD i 0 ∈ L
        · rw [if_pos h2, if_pos ⟨by omega, h2.2⟩]; omega
        · rw [if_neg h2, if_neg (fun h3 => h2 ⟨by omega, h3.2⟩)]; omega
    · rw [if_neg hc, ih]
      rw [hasB_iff] at hc
      by_cases h2 : i < j ∧ ids.getD i 0 ∈ L
      · rw [if_pos h2, if_pos ⟨by omega, h2.2⟩]
      · rw [if_neg h2, if_neg (fun h3 => by
          by_cases he : i = j
          · subst he; exact hc h3.2
          · exact h2 ⟨by omega, h3.2⟩)]
theorem incN_all {ids L O : List Int} (hs : ids.Pairwise (· < ·)) (hn : L.Nodup) (hin : ∀ x ∈ L, x ∈ ids) (ho : O.length = ids.length) : incN ids L O ids.length = addL ids O L := by
  refine List.ext_getElem? fun i => ?_
  by_cases hi : i < ids.length
  · have h1 := incN_at ids L O i ids.length (by omega)
    have h2 := addL_at hs hi L O hn hin ho
    rw [show (if i < ids.length ∧ ids.getD i 0 ∈ L then (1 : Int) else 0) = (if ids.getD i 0 ∈ L then 1 else 0) by simp [hi]] at h1
    have e := h1.trans h2.symm
    have l1 : i < (incN ids L O ids.length).length := by rw [incN_len]; omega
    have l2 : i < (addL ids O L).length := by rw [addL_len]; omega
    rw [List.getD_eq_getElem?_getD, List.getD_eq_getElem?_getD, List.getElem?_eq_getElem l1, List.getElem?_eq_getElem l2] at e
    rw [List.getElem?_eq_getElem l1, List.getElem?_eq_getElem l2]
    simpa using e
  · rw [List.getElem?_eq_none (by rw [incN_len]; omega), List.getElem?_eq_none (by rw [addL_len]; omega)]
theorem inR_incN {ids L O : List Int} {B : Int} (h : inR O B) (ho : O.length = ids.length) (j i : Nat) (hj : j ≤ O.length) (hi : i < O.length) : 0 ≤ (incN ids L O j).getD i 0 ∧ (incN ids L O j).getD i 0 ≤ B + 1 := by
  rw [incN_at ids L O i j hj]
  have := inR_getD h hi
  split <;> omega
set_option maxRecDepth 100000 in
set_option maxHeartbeats 4000000 in
theorem rcounts_bad (ids : List Int) (clients size : Int) (seed : Nat) (A : Option Addr) (n c : Nat) (w : World) (hr : Sl.Rds w 1 A n (ids.flatMap fun n => [.int .i64 n])) (hs : seed < 18446744073709551616) (h : ofE ids 0 size ≠ 0) :
    Calls Try.prog 20 #[.slice A n c, .int .i64 clients, .int .i64 size, .int .u64 seed] w (OfPost w [] (ofE ids 0 size)) := by
  have GO := K.H.mk (fun (W : World) (hb : Below w.heap.size w W) => rOf_c ids 0 size seed A n c W (hr.below hb) hs)
  have hd : (ofE ids 0 size != 0) = true := by simpa using h
  generalize oOf ids 0 size seed = L at *
  generalize ofE ids 0 size = er at *
  clear hr h
  go_enter Try.func20, Try.ntmps20
  go_wp2_with (first
    | (go_at_call 15; (with_reducible refine (GO.out _ (by repeat (first | (with_reducible exact Below.refl _ _) | (with_reducible refine K.b_bel ?_ (by assumption)) | (with_reducible refine K.b_alloc ?_ _) | (with_reducible refine K.b_drewN ?_ _) | (with_reducible refine K.b_drew ?_) | (with_reducible refine K.b_set ?_ (by first | omega | (simp <;> omega)) _) | (with_reducible refine K.b_only ?_ (by assumption) (by first | omega | (simp <;> omega)))))).mono ?_); rintro e W1 ⟨v1, rfl, hown1, hb1⟩; obtain ⟨hB1, hC1, hF1, hZ1⟩ := K.bel_facts hb1; clear hb1 hown1))
  go_ret2
  exact ⟨_, rfl, World.ownsRow_nil _ _ _ _, (by repeat (first | (with_reducible exact Below.refl _ _) | (with_reducible refine K.b_bel ?_ (by assumption)) | (with_reducible refine K.b_alloc ?_ _) | (with_reducible refine K.b_drewN ?_ _) | (with_reducible refine K.b_drew ?_) | (with_reducible refine K.b_set ?_ (by first | omega | (simp <;> omega)) _) | (with_reducible refine K.b_only ?_ (by assumption) (by first | omega | (simp <;> omega)))))⟩
set_option maxRecDepth 100000 in
set_option maxHeartbeats 4000000 in
theorem rcounts_range (ids : List Int) (clients size : Int) (seed : Nat) (A : Option Addr) (n c : Nat) (w : World) (hr : Sl.Rds w 1 A n (ids.flatMap fun n => [.int .i64 n])) (hs : seed < 18446744073709551616) (h : ofE ids 0 size = 0) (h2 : clients < 0 ∨ 256 < clients) :
    Calls Try.prog 20 #[.slice A n c, .int .i64 clients, .int .i64 size, .int .u64 seed] w (OfPost w [] 4) := by
  have GO := K.H.mk (fun (W : World) (hb : Below w.heap.size w W) => rOf_c ids 0 size seed A n c W (hr.below hb) hs)
  rw [h] at GO
  generalize oOf ids 0 size seed = L at *
  have hd : decide (clients < 0) = true ∨ (decide (clients < 0) = false ∧ decide (256 < clients) = true) := by
    by_cases h0 : clients < 0
    · exact .inl (decide_eq_true h0)
    · exact .inr ⟨decide_eq_false h0, decide_eq_true (by omega)⟩
  clear hr h h2
  rcases hd with d1 | ⟨d1, d2⟩
  all_goals
    go_enter Try.func20, Try.ntmps20
    go_wp2_with (first
      | (go_at_call 15; (with_reducible refine (GO.out _ (by repeat (first | (with_reducible exact Below.refl _ _) | (with_reducible refine K.b_bel ?_ (by assumption)) | (with_reducible refine K.b_alloc ?_ _) | (with_reducible refine K.b_drewN ?_ _) | (with_reducible refine K.b_drew ?_) | (with_reducible refine K.b_set ?_ (by first | omega | (simp <;> omega)) _) | (with_reducible refine K.b_only ?_ (by assumption) (by first | omega | (simp <;> omega)))))).mono ?_); rintro e W1 ⟨v1, rfl, hown1, hb1⟩; obtain ⟨hB1, hC1, hF1, hZ1⟩ := K.bel_facts hb1; clear hb1 hown1))
    go_ret2
    exact ⟨_, rfl, World.ownsRow_nil _ _ _ _, (by repeat (first | (with_reducible exact Below.refl _ _) | (with_reducible refine K.b_bel ?_ (by assumption)) | (with_reducible refine K.b_alloc ?_ _) | (with_reducible refine K.b_drewN ?_ _) | (with_reducible refine K.b_drew ?_) | (with_reducible refine K.b_set ?_ (by first | omega | (simp <;> omega)) _) | (with_reducible refine K.b_only ?_ (by assumption) (by first | omega | (simp <;> omega)))))⟩
set_option maxRecDepth 100000 in
set_option maxHeartbeats 8000000 in
theorem rCountsG (of : Nat → List Int) (oe : Nat → Int) (ids : List Int) (C : Nat) (size : Int) (seed : Nat) (A : Option Addr) (n c : Nat) (w : World) (hr : Sl.Rds w 1 A n (ids.flatMap fun n => [.int .i64 n])) (hn : n ≤ 32) (hC : C ≤ 256) (hs : ids.Pairwise (· < ·))
    (h0 : oe 0 = 0) (hin : ∀ c, ∀ x ∈ of c, x ∈ ids) (hnd : ∀ c, (of c).Nodup) (hlen : ∀ c, (of c).length ≤ 32)
    (hO : ∀ (k : Nat) (W : World), Below w.heap.size w W → Calls Try.prog 15 #[.slice A n c, .int .i64 k, .int .i64 size, .int .u64 seed] W (OfPost W (of k) (oe k))) :
    Calls Try.prog 20 #[.slice A n c, .int .i64 C, .int .i64 size, .int .u64 seed] w (OfPost w (cntG of ids C) 0) := by
  obtain rfl := hr.length (fun _ => rfl) (by omega)
  have Hr := K.H.mk hr
  have hmk := make_c ids.length hn
  have GO0 := K.H.mk (show ∀ W : World, Below w.heap.size w W → Calls Try.prog 15 #[.slice A ids.length c, .int .i64 0, .int .i64 size, .int .u64 seed] W (OfPost W (of 0) 0) from fun W hb => by
    have h9 := hO 0 W hb; rw [h0] at h9; exact h9)
  have GO := K.H.mk hO
  have d1 : decide ((C : Int) < 0) = false := decide_eq_false (by omega)
  have d2 : decide ((256 : Int) < (C : Int)) = false := decide_eq_false (by omega)
  have d2n : decide (256 < C) = false := decide_eq_false (by omega)
  have Hs := K.H.mk hs
  have Hin := K.H.mk hin
  have Hnd := K.H.mk hnd
  have hcl := cntG_len of ids
  have hR := inR_cntG (of := of) (ids := ids) hlen
  clear hr hO h0 hs hin hnd
  go_enter Try.func20, Try.ntmps20
  go_wp2_with (first
    | (go_at_call 15; (with_reducible refine (GO0.out _ (by repeat (first | (with_reducible exact Below.refl _ _) | (with_reducible refine K.b_bel ?_ (by assumption)) | (with_reducible refine K.b_alloc ?_ _) | (with_reducible refine K.b_drewN ?_ _) | (with_reducible refine K.b_drew ?_) | (with_reducible refine K.b_set ?_ (by first | omega | (simp <;> omega)) _) | (with_reducible refine K.b_only ?_ (by assumption) (by first | omega | (simp <;> omega)))))).mono ?_); rintro e W1 ⟨v1, rfl, hown1, hb1⟩; obtain ⟨hB1, hC1, hF1, hZ1⟩ := K.bel_facts hb1; clear hb1 hown1))
  have o1 := own_made W1 ids.length w.heap.size hn hZ1
  have hb2 : Below w.heap.size w (W1.alloc (.cells (madeCells #[.int .i64 0] ids.length) 3)) := (by repeat (first | (with_reducible exact Below.refl _ _) | (with_reducible refine K.b_bel ?_ (by assumption)) | (with_reducible refine K.b_alloc ?_ _) | (with_reducible refine K.b_drewN ?_ _) | (with_reducible refine K.b_drew ?_) | (with_reducible refine K.b_set ?_ (by first | omega | (simp <;> omega)) _) | (with_reducible refine K.b_only ?_ (by assumption) (by first | omega | (simp <;> omega)))))
  have Hb2 := K.H.mk hb2
  obtain ⟨gO, hgO⟩ : ∃ g, g = W1.heap.size := ⟨_, rfl⟩
  rw [← hgO] at o1 ⊢
  have hgw : w.heap.size ≤ gO := by omega
  clear hb2 hgO hmk GO0 d1 d2 d2n
  ((try clear hC1); (try clear hF1); (try clear hZ1); (try clear hc1); (try clear hf1); (try clear hl1); (try clear hB1); (try clear hO1); (try clear hA1); (try clear hz1_0); (try clear hz1_1); (try clear hz1_2); (try clear hz1_3))
  generalize (W1.alloc (.cells (madeCells #[.int .i64 0] ids.length) 3)) = W2 at *
  go_loopw [13] (fun i wr => ∃ k : Nat, k ≤ C ∧ i = .int .i64 k ∧ wr.ownsRow w.heap.size 3 1 (.slice (some ⟨gO, 0, none⟩) ids.length ids.length) ids.length ((cntG of ids k).map iv) ∧ K.H (Below w.heap.size w wr)) (fun i _ => C - (intOf i).toNat)
  case atStart => exact ⟨0, by omega, rfl, o1, Hb2⟩
  case round =>
    clear o1 Hb2
    obtain ⟨k, hk, rfl, hown, Hb⟩ := hrel
    by_cases hlt : k < C
    · have hkc : (k : Int) < C := by omega
      have hRk := hR k
      have hstep : cntG of ids (k + 1) = addL ids (cntG of ids k) (of k) := rfl
      have hol := hcl k
      have Hst := K.H.mk (hstep.trans (incN_all Hs.out (Hnd.out k) (Hin.out k) hol).symm)
      have GK := K.H.mk (GO.out k wr Hb.out)
      have hlk := hlen k
      clear hstep
      generalize cntG of ids k = O at *
      generalize of k = L at *
      go_wp2_with (first
        | (go_at_call 15; (with_reducible refine (GK.out).mono ?_); rintro e W4 ⟨v4, rfl, hown4, hb4⟩; obtain ⟨hB4, hC4, hF4, hZ4⟩ := K.bel_facts hb4; clear hb4; obtain ⟨B4, d4, rfl, hR4⟩ := Sl.Rds.of_own hown4; clear hR4))
      have Hb4 := K.H.mk (show Below w.heap.size w W4 from (by repeat (first | (with_reducible exact Below.refl _ _) | (with_reducible exact Hb.out) | (with_reducible refine K.b_bel ?_ (by assumption)) | (with_reducible refine K.b_alloc ?_ _) | (with_reducible refine K.b_drewN ?_ _) | (with_reducible refine K.b_drew ?_) | (with_reducible refine K.b_set ?_ (by first | omega | (simp <;> omega)) _) | (with_reducible refine K.b_only ?_ (by assumption) (by first | omega | (simp <;> omega))))))
      have own4 := Sl.own_over hown hB4
      have hgl : gO < wr.heap.size := (hown.lt gO rfl).2
      have fU : (Value.slice B4 L.length d4).ownBlock ≠ some gO := fun e => by have h1 := hown4.lt _ e; omega
      have Ho4 := K.H.mk hown4
      clear hown hown4 GK Hb hB4 hC4 hF4
      go_loopw [16] (fun i wr => ∃ j : Nat, j ≤ ids.length ∧ i = .int .i64 j ∧ wr.ownsRow w.heap.size 3 1 (.slice (some ⟨gO, 0, none⟩) ids.length ids.length) ids.length ((incN ids L O j).map iv) ∧ K.Only W4 wr gO) (fun i _ => ids.length - (intOf i).toNat)
      case atStart => exact ⟨0, by omega, rfl, own4, ⟨K.o_refl _ _⟩⟩
      case round =>
        clear own4
        obtain ⟨j, hj, rfl, hown, hOn⟩ := hrel
        have pU := Sl.own_past Ho4.out hOn fU
        have HOn := K.H.mk hOn
        have Hw2 := K.H.mk (show Below w.heap.size w wr from K.b_only Hb4.out hOn (by omega))
        clear hOn
        by_cases hlt2 : j < ids.length
        · obtain ⟨x, hx⟩ : ∃ x, ids[j]? = some x := ⟨_, List.getElem?_eq_getElem hlt2⟩
          have hxe : ids.getD j 0 = x := by rw [List.getD_eq_getElem?_getD, hx]; rfl
          obtain ⟨B5, d5, he5, hR5⟩ := Sl.Rds.of_own pU
          cases he5
          rw [← flat_iv] at hR5
          have GH := K.H.mk (fun (W : World) (hb : Below wr.heap.size wr W) => rhas_c L x B4 L.length d4 W (hR5.below hb))
          obtain ⟨b, off, rfl, hbl, hbc⟩ := Sl.Rds.elem Hr.out (enc := fun n => [.int .i64 n]) (fun _ => rfl) (by omega) hx
          have q_0 : wr.cell? ⟨b, off + j, none⟩ = some (.int .i64 x) := by
            have := (Hw2.out.cell (p := ⟨b, off + j * 1 + 0, none⟩) hbl).trans (hbc 0 (by omega))
            simpa using this
          have hbw : b < wr.heap.size := Nat.lt_of_lt_of_le hbl Hw2.out.size
          have hjl : (j : Int) < (ids.length : Int) := by omega
          obtain ⟨v0, v1⟩ := inR_incN (ids := ids) (L := L) hRk hol j j (by omega) (by omega)
          have hPl : (incN ids L O j).length = ids.length := by rw [incN_len]; exact hol
          have HT := K.H.mk (show incN ids L O (j + 1) = if hasB L x = true then bump (incN ids L O j) j else incN ids L O j by rw [← hxe]; rfl)
          clear hx hbc hR5 pU hxe
          generalize incN ids L O j = P at *
          cases hq : hasB L x
          · rw [hq] at GH HT
            rw [if_neg (by decide)] at HT
            clear hq
            go_wp2_with (first | (go_at_call 29; (with_reducible refine (GH.out _ (by repeat (first | (with_reducible exact Below.refl _ _) | (with_reducible refine K.b_bel ?_ (by assumption)) | (with_reducible refine K.b_alloc ?_ _) | (with_reducible refine K.b_drewN ?_ _) | (with_reducible refine K.b_drew ?_) | (with_reducible refine K.b_set ?_ (by first | omega | (simp <;> omega)) _) | (with_reducible refine K.b_only ?_ (by assumption) (by first | omega | (simp <;> omega)))))).mono ?_); rintro e w' ⟨rfl, hw'⟩; have hw'2 := Eq.symm hw'; clear hw'; subst hw'2))
            go_roundw
            case rel => exact ⟨j + 1, by omega, by go_num, by rw [HT.out]; exact hown, ⟨HOn.out.out⟩⟩
            case measure => simp [intOf]; omega
          · rw [hq] at GH HT
            rw [if_pos rfl] at HT
            clear hq
            have hst := (hown.stored j (iv (P.getD j 0 + 1))).1
            rw [show (P.map iv).set j (iv (P.getD j 0 + 1)) = (bump P j).map iv by unfold bump; rw [List.map_set]] at hst
            have hcv : wr.cell? ⟨gO, j, none⟩ = some (.int .i64 (P.getD j 0)) := by rw [hown.cellAt j (by omega), map_getD (by omega)]
            have hfv := hown.frozenAt j
            have Hst2 := K.H.mk hst
            have hv1 : P.getD j 0 + 1 ≤ 9223372036854775807 := by omega
            clear hst hown
            generalize bump P j = P2 at *
            generalize P.getD j 0 = vi at *
            go_wp2_with (first | (go_at_call 29; (with_reducible refine (GH.out _ (by repeat (first | (with_reducible exact Below.refl _ _) | (with_reducible refine K.b_bel ?_ (by assumption)) | (with_reducible refine K.b_alloc ?_ _) | (with_reducible refine K.b_drewN ?_ _) | (with_reducible refine K.b_drew ?_) | (with_reducible refine K.b_set ?_ (by first | omega | (simp <;> omega)) _) | (with_reducible refine K.b_only ?_ (by assumption) (by first | omega | (simp <;> omega)))))).mono ?_); rintro e w' ⟨rfl, hw'⟩; have hw'2 := Eq.symm hw'; clear hw'; subst hw'2))
            go_roundw
            case rel => exact ⟨j + 1, by omega, by go_num, by rw [HT.out]; exact Hst2.out, ⟨K.o_set HOn.out.out _ _⟩⟩
            case measure => simp [intOf]; omega
        · obtain rfl : j = ids.length := by omega
          go_wp2
          go_roundw
          case rel => exact ⟨k + 1, by omega, by go_num, by rw [Hst.out]; exact hown, Hw2⟩
          case measure => simp [intOf]; omega
    · obtain rfl : k = C := by omega
      go_wp2
      go_ret2
      exact ⟨_, rfl, by rw [hcl]; exact hown, Hb.out⟩
theorem oOf_nodup (ids : List Int) (client size : Int) (seed : Nat) : (oOf ids client size seed).Nodup := by
  unfold oOf
  split
  · rename_i h; exact (ofL_some h).2.1.imp (fun h => by omega)
  · simp
theorem rCounts_c (ids : List Int) (clients size : Int) (seed : Nat) (A : Option Addr) (n c : Nat) (w : World) (hr : Sl.Rds w 1 A n (ids.flatMap fun n => [.int .i64 n])) (hs : seed < 18446744073709551616) :
    Calls Try.prog 20 #[.slice A n c, .int .i64 clients, .int .i64 size, .int .u64 seed] w (OfPost w (cntL ids clients size seed) (cntE ids clients size)) := by
  unfold cntL
  by_cases h : ofE ids 0 size = 0
  · by_cases h2 : clients < 0 ∨ 256 < clients
    · rw [show cntE ids clients size = 4 by unfold cntE; rw [if_pos h, if_pos h2], if_neg (by decide)]
      exact rcounts_range ids clients size seed A n c w hr hs h h2
    · rw [show cntE ids clients size = 0 by unfold cntE; rw [if_pos h, if_neg h2], if_pos rfl]
      obtain ⟨C, rfl⟩ := Int.eq_ofNat_of_zero_le (show 0 ≤ clients by omega)
      have hl := hr.length (fun _ => rfl) (by omega)
      have := eChk_len (ofE_ok h).1
      exact rCountsG (fun c => oOf ids c size seed) (fun c => ofE ids c size) ids C size seed A n c w hr (by omega) (by omega) (eChk_rise (ofE_ok h).1).1 h (fun c => oOf_in.1) (fun c => oOf_nodup _ _ _ _) (fun c => oOf_in.2)
        (fun k W hb => rOf_c ids k size seed A n c W (hr.below hb) hs)
  · rw [show cntE ids clients size = ofE ids 0 size by unfold cntE; rw [if_neg h], if_neg h]
    exact rcounts_bad ids clients size seed A n c w hr hs h
end Go.Proofs.Ytpafbjffecpdmaa.Sb
