/- SubsetOwn: the walk. -/
import Derived.Test.YtpafbjffecpdmaaSb21
import Derived.Test.YtpafbjffecpdmaaSame
set_option linter.unusedVariables false
namespace Go.Proofs.Ytpafbjffecpdmaa.Sb
open Go.RowKit Go.Proofs.Ytpafbjffecpdmaa
attribute [local go_sem] K.max2_int K.min2_int K.max_two K.min_two K.max_three K.min_three
set_option linter.unusedSimpArgs false
theorem own_in {w : World} {g cap n base : Nat} {X : List Int} (h : w.ownsRow base 3 1 (.slice (some ⟨g, 0, none⟩) n cap) n (X.map iv)) {k : Nat} (hk : k < n) : ∃ u, w.cell? ⟨g, k, none⟩ = some (.int .i64 u) := by
  have hl : X.length = n := by have := h.1; simpa using this
  refine ⟨X.getD k 0, ?_⟩
  rw [h.cellAt k (by omega), map_getD (by omega)]
theorem own_put {w : World} {g cap n base : Nat} {X : List Int} (h : w.ownsRow base 3 1 (.slice (some ⟨g, 0, none⟩) n cap) n (X.map iv)) (k : Nat) (y : Int) : ∃ Y : List Int, (w.setCell ⟨g, k, none⟩ (.int .i64 y)).ownsRow base 3 1 (.slice (some ⟨g, 0, none⟩) n cap) n (Y.map iv) := by
  have h1 := (h.stored k (iv y)).1
  rw [← List.map_set] at h1
  exact ⟨_, h1⟩
set_option maxRecDepth 100000 in
set_option maxHeartbeats 4000000 in
theorem OwnLaw_c (ids : List Int) (client size : Int) (seed : Nat) (A : Option Addr) (n c : Nat) (w : World) (hr : Sl.Rds w 1 A n (ids.flatMap fun n => [.int .i64 n])) (hs : seed < 18446744073709551616) (hn : n * 8 ≤ 140737488355328) :
    Calls Try.prog 5 #[.slice A n c, .int .i64 client, .int .i64 size, .int .u64 seed] w fun e w' => e = .returned (.bool true) ∧ Below w.heap.size w w' := by
  obtain rfl := hr.length (fun _ => rfl) (by omega)
  have hle := hr.le
  have GK := K.H.mk (fun (W : World) (hb : Below w.heap.size w W) => Sl.copy_c ids A ids.length c W (hr.below hb) hn)
  have GO := K.H.mk (fun (W : World) (B : Option Addr) (d : Nat) (hR : Sl.Rds W 1 B ids.length (ids.flatMap fun n => [.int .i64 n])) => Of_c ids client size seed B ids.length d W hR hs)
  have GR := K.H.mk (fun (W : World) (hb : Below w.heap.size w W) => rOf_c ids client size seed A ids.length c W (hr.below hb) hs)
  generalize oOf ids client size seed = L at *
  generalize ofE ids client size = er at *
  have de : (er == er) = true := by simp
  have dL : decide (L = L) = true := by simp
  have GS := K.H.mk (fun (W : World) (B C : Option Addr) (d e : Nat) (h1 : Sl.Rds W 1 B L.length (L.flatMap fun n => [.int .i64 n])) (h2 : Sl.Rds W 1 C L.length (L.flatMap fun n => [.int .i64 n])) => Sl.same_c L L B C L.length L.length d e W h1 h2)
  rw [dL] at GS
  clear hr hn dL
  go_enter Try.func5, Try.ntmps5
  go_wp2_with (first
    | (go_at_call 9; (with_reducible refine (alive_c _).mono ?_); rintro e W1 ⟨rfl, hb1⟩; obtain ⟨hB1, hC1, hF1, hZ1⟩ := K.bel_facts hb1; clear hb1)
    | (go_at_call 14; (with_reducible refine (GK.out _ (by repeat (first | (with_reducible exact Below.refl _ _) | (with_reducible refine K.b_bel ?_ (by assumption)) | (with_reducible refine K.b_alloc ?_ _) | (with_reducible refine K.b_drewN ?_ _) | (with_reducible refine K.b_drew ?_) | (with_reducible refine K.b_set ?_ (by first | omega | (simp <;> omega)) _) | (with_reducible refine K.b_only ?_ (by assumption) (by first | omega | (simp <;> omega)))))).mono ?_); rintro e W2 ⟨⟨v2, rfl, hown2⟩, hb2⟩; obtain ⟨hB2, hC2, hF2, hZ2⟩ := K.bel_facts hb2; clear hb2; obtain ⟨B2, d2, rfl, hR2⟩ := Sl.Rds.of_own hown2; rw [flat_iv] at hown2)
    | (go_at_call 10; (with_reducible refine (GO.out _ _ _ hR2).mono ?_); rintro e W3 ⟨v3, rfl, hown3, hb3⟩; obtain ⟨hB3, hC3, hF3, hZ3⟩ := K.bel_facts hb3; clear hb3; obtain ⟨B3, d3, rfl, hR3⟩ := Sl.Rds.of_own hown3; clear hR3))
  have l2 := Sl.own_low (base2 := w.heap.size) hown2 hB1.out.size
  have o3 : W3.ownsRow w.heap.size 3 1 (.slice B2 ids.length d2) ids.length (ids.map iv) := (by repeat (first | (with_reducible exact l2) | (with_reducible refine Sl.own_over ?_ hB3) | (with_reducible refine World.ownsRow.alloc ?_ _)))
  have hb3 : Below w.heap.size w W3 := (by repeat (first | (with_reducible exact Below.refl _ _) | (with_reducible refine K.b_bel ?_ (by assumption)) | (with_reducible refine K.b_alloc ?_ _) | (with_reducible refine K.b_drewN ?_ _) | (with_reducible refine K.b_drew ?_) | (with_reducible refine K.b_set ?_ (by first | omega | (simp <;> omega)) _) | (with_reducible refine K.b_only ?_ (by assumption) (by first | omega | (simp <;> omega)))))
  have hb2 : Below w.heap.size w W2 := (by repeat (first | (with_reducible exact Below.refl _ _) | (with_reducible refine K.b_bel ?_ (by assumption)) | (with_reducible refine K.b_alloc ?_ _) | (with_reducible refine K.b_drewN ?_ _) | (with_reducible refine K.b_drew ?_) | (with_reducible refine K.b_set ?_ (by first | omega | (simp <;> omega)) _) | (with_reducible refine K.b_only ?_ (by assumption) (by first | omega | (simp <;> omega)))))
  obtain ⟨bx, hbx, hbx0, hbx1⟩ : ∃ bx, (0 < ids.length → B2 = some ⟨bx, 0, none⟩) ∧ w.heap.size ≤ bx ∧ (bx < W2.heap.size ∨ W3.heap.size ≤ bx) := by
    by_cases h0 : 0 < ids.length
    · obtain ⟨g, cap, hv, h1, h2⟩ := own_form hown2 h0
      cases hv
      exact ⟨g, fun _ => rfl, by have := hB1.out.size; omega, .inl h2⟩
    · exact ⟨W3.heap.size, fun h => absurd h h0, hb3.size, .inr (Nat.le_refl _)⟩
  have fU : (Value.slice B3 L.length d3).ownBlock ≠ some bx := fun e => by have h1 := hown3.lt _ e; omega
  have Hbx := K.H.mk hbx
  have Hb3 := K.H.mk hb3
  have Ho3 := K.H.mk (Sl.own_low (base2 := w.heap.size) hown3 hb2.size)
  clear hbx hbx1 hb3 hb2 hown2 hown3 hR2 l2 GK GO
  ((try clear hC3); (try clear hF3); (try clear hZ3); (try clear hc3); (try clear hf3); (try clear hl3); (try clear hB3); (try clear hO3); (try clear hA3); (try clear hz3_0); (try clear hz3_1); (try clear hz3_2); (try clear hz3_3); (try clear hz3_1_0); (try clear hz3_1_1); (try clear hz3_2_0); (try clear hz3_2_1); (try clear hC2); (try clear hF2); (try clear hZ2); (try clear hc2); (try clear hf2); (try clear hl2); (try clear hB2); (try clear hO2); (try clear hA2); (try clear hz2_0); (try clear hz2_1); (try clear hz2_2); (try clear hz2_3); (try clear hz2_1_0); (try clear hz2_1_1); (try clear hC1); (try clear hF1); (try clear hZ1); (try clear hc1); (try clear hf1); (try clear hl1); (try clear hB1); (try clear hO1); (try clear hA1); (try clear hz1_0); (try clear hz1_1); (try clear hz1_2); (try clear hz1_3))
  go_loopw [12] (fun i wr => ∃ k : Nat, k ≤ ids.length ∧ i = .int .i64 k ∧ K.H (∃ X : List Int, wr.ownsRow w.heap.size 3 1 (.slice B2 ids.length d2) ids.length (X.map iv)) ∧ K.Only W3 wr bx) (fun i _ => ids.length - (intOf i).toNat)
  case atStart => exact ⟨0, by omega, rfl, ⟨_, o3⟩, ⟨K.o_refl _ _⟩⟩
  case round =>
    obtain ⟨k, hk, rfl, HX, hO⟩ := hrel
    clear o3
    by_cases hlt : k < ids.length
    · obtain rfl := Hbx.out (by omega)
      obtain ⟨X, hown⟩ := HX.out
      obtain ⟨u, hc_u⟩ := own_in hown hlt
      have hf_u := hown.frozenAt k
      have hkl : (k : Int) < (ids.length : Int) := by omega
      have HP := K.H.mk (own_put hown k 77)
      have HO := K.H.mk hO.out
      clear HX hown Hbx hO Ho3
      go_wp2
      go_roundw
      case rel => exact ⟨k + 1, by omega, by go_num, HP, ⟨K.o_set HO.out _ _⟩⟩
      case measure => simp [intOf]; omega
    · obtain rfl : k = ids.length := by omega
      have pU := Sl.own_past Ho3.out hO fU
      obtain ⟨B4, d4, he4, hR4⟩ := Sl.Rds.of_own pU
      cases he4
      rw [← flat_iv] at hR4
      have hwb : Below w.heap.size w wr := Hb3.out.grown hO.out Hb3.out.size (fun j e => by cases e; omega)
      clear HX Hbx hO Ho3 pU Hb3
      go_wp2_with (first
        | (go_at_call 15; (with_reducible refine (GR.out _ (by repeat (first | (with_reducible exact Below.refl _ _) | (with_reducible exact hwb) | (with_reducible refine K.b_bel ?_ (by assumption)) | (with_reducible refine K.b_alloc ?_ _) | (with_reducible refine K.b_drewN ?_ _) | (with_reducible refine K.b_drew ?_) | (with_reducible refine K.b_set ?_ (by first | omega | (simp <;> omega)) _) | (with_reducible refine K.b_only ?_ (by assumption) (by first | omega | (simp <;> omega)))))).mono ?_); rintro e W6 ⟨v6, rfl, hown6, hb6⟩; obtain ⟨hB6, hC6, hF6, hZ6⟩ := K.bel_facts hb6; clear hb6; obtain ⟨B6, d6, rfl, hR6⟩ := Sl.Rds.of_own hown6; rw [← flat_iv] at hR6; clear hown6)
        | (go_at_call 16; (with_reducible refine (GS.out _ _ _ _ _ ?r1 hR6).mono ?_); (case r1 => exact (by repeat (first | (with_reducible exact hR4) | (with_reducible refine Sl.Rds.bel ?_ hB6) | (with_reducible refine rds_alloc ?_ _)))); rintro e W7 ⟨rfl, hb7⟩; obtain ⟨hB7, hC7, hF7, hZ7⟩ := K.bel_facts hb7; clear hb7)
        | (go_at_call 11; (with_reducible refine (num_c _ _).mono ?_); rintro e w' ⟨rfl, hw'⟩; have hw'2 := Eq.symm hw'; clear hw'; subst hw'2))
      go_ret
      exact ⟨rfl, (by repeat (first | (with_reducible exact Below.refl _ _) | (with_reducible exact hwb) | (with_reducible refine K.b_bel ?_ (by assumption)) | (with_reducible refine K.b_alloc ?_ _) | (with_reducible refine K.b_drewN ?_ _) | (with_reducible refine K.b_drew ?_) | (with_reducible refine K.b_set ?_ (by first | omega | (simp <;> omega)) _) | (with_reducible refine K.b_only ?_ (by assumption) (by first | omega | (simp <;> omega)))))⟩
theorem OwnI (ids : List Int) (client size seed : Int) (A : Option Addr) (n c : Nat) (w : World) (hr : Sl.Rds w 1 A n (ids.flatMap fun n => [.int .i64 n])) (hs : (Lit.int .u64 seed).wf = true) (hn : n * 8 ≤ 140737488355328) :
    Calls Try.prog 5 #[.slice A n c, .int .i64 client, .int .i64 size, .int .u64 seed] w fun e w' => e = .returned (.bool true) ∧ Below w.heap.size w w' := by
  obtain ⟨h0, h1⟩ := u64_wf hs
  obtain ⟨s, rfl⟩ := Int.eq_ofNat_of_zero_le h0
  exact OwnLaw_c ids client size s A n c w hr (by omega) hn
end Go.Proofs.Ytpafbjffecpdmaa.Sb
