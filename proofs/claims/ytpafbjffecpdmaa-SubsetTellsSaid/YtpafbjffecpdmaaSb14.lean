/- Subset: Counts: the contract. -/
import Derived.Test.YtpafbjffecpdmaaSb13
set_option linter.unusedVariables false
namespace Go.Proofs.Ytpafbjffecpdmaa.Sb
open Go.RowKit Go.Proofs.Ytpafbjffecpdmaa
attribute [local go_sem] K.max2_int K.min2_int K.max_two K.min_two K.max_three K.min_three
set_option linter.unusedSimpArgs false
theorem oOf_in {ids : List Int} {client size : Int} {seed : Nat} : (∀ x ∈ oOf ids client size seed, x ∈ ids) ∧ (oOf ids client size seed).length ≤ 32 := by
  unfold oOf
  split
  · rename_i h; exact ⟨(ofL_some h).1, ofL_len h (ofE_ok h).1⟩
  · simp
set_option maxRecDepth 100000 in
set_option maxHeartbeats 4000000 in
theorem counts_bad (ids : List Int) (clients size : Int) (seed : Nat) (A : Option Addr) (n c : Nat) (w : World) (hr : Sl.Rds w 1 A n (ids.flatMap fun n => [.int .i64 n])) (hs : seed < 18446744073709551616) (h : ofE ids 0 size ≠ 0) :
    Calls Try.prog 17 #[.slice A n c, .int .i64 clients, .int .i64 size, .int .u64 seed] w (OfPost w [] (ofE ids 0 size)) := by
  have GO := K.H.mk (fun (W : World) (hb : Below w.heap.size w W) => of_c ids 0 size seed A n c W (hr.below hb) hs)
  have hd : (ofE ids 0 size != 0) = true := by simpa using h
  generalize oOf ids 0 size seed = L at *
  generalize ofE ids 0 size = er at *
  clear hr h
  go_enter Try.func17, Try.ntmps17
  go_wp2_with (first
    | (go_at_call 22; (with_reducible refine (GO.out _ (by repeat (first | (with_reducible exact Below.refl _ _) | (with_reducible refine K.b_bel ?_ (by assumption)) | (with_reducible refine K.b_alloc ?_ _) | (with_reducible refine K.b_drewN ?_ _) | (with_reducible refine K.b_drew ?_) | (with_reducible refine K.b_set ?_ (by first | omega | (simp <;> omega)) _) | (with_reducible refine K.b_only ?_ (by assumption) (by first | omega | (simp <;> omega)))))).mono ?_); rintro e W1 ⟨v1, rfl, hown1, hb1⟩; obtain ⟨hB1, hC1, hF1, hZ1⟩ := K.bel_facts hb1; clear hb1 hown1))
  go_ret2
  exact ⟨_, rfl, World.ownsRow_nil _ _ _ _, (by repeat (first | (with_reducible exact Below.refl _ _) | (with_reducible refine K.b_bel ?_ (by assumption)) | (with_reducible refine K.b_alloc ?_ _) | (with_reducible refine K.b_drewN ?_ _) | (with_reducible refine K.b_drew ?_) | (with_reducible refine K.b_set ?_ (by first | omega | (simp <;> omega)) _) | (with_reducible refine K.b_only ?_ (by assumption) (by first | omega | (simp <;> omega)))))⟩
set_option maxRecDepth 100000 in
set_option maxHeartbeats 4000000 in
theorem counts_range (ids : List Int) (clients size : Int) (seed : Nat) (A : Option Addr) (n c : Nat) (w : World) (hr : Sl.Rds w 1 A n (ids.flatMap fun n => [.int .i64 n])) (hs : seed < 18446744073709551616) (h : ofE ids 0 size = 0) (h2 : clients < 0 ∨ 256 < clients) :
    Calls Try.prog 17 #[.slice A n c, .int .i64 clients, .int .i64 size, .int .u64 seed] w (OfPost w [] 4) := by
  have GO := K.H.mk (fun (W : World) (hb : Below w.heap.size w W) => of_c ids 0 size seed A n c W (hr.below hb) hs)
  rw [h] at GO
  generalize oOf ids 0 size seed = L at *
  have hd : decide (clients < 0) = true ∨ (decide (clients < 0) = false ∧ decide (256 < clients) = true) := by
    by_cases h0 : clients < 0
    · exact .inl (decide_eq_true h0)
    · exact .inr ⟨decide_eq_false h0, decide_eq_true (by omega)⟩
  clear hr h h2
  rcases hd with d1 | ⟨d1, d2⟩
  all_goals
    go_enter Try.func17, Try.ntmps17
    go_wp2_with (first
      | (go_at_call 22; (with_reducible refine (GO.out _ (by repeat (first | (with_reducible exact Below.refl _ _) | (with_reducible refine K.b_bel ?_ (by assumption)) | (with_reducible refine K.b_alloc ?_ _) | (with_reducible refine K.b_drewN ?_ _) | (with_reducible refine K.b_drew ?_) | (with_reducible refine K.b_set ?_ (by first | omega | (simp <;> omega)) _) | (with_reducible refine K.b_only ?_ (by assumption) (by first | omega | (simp <;> omega)))))).mono ?_); rintro e W1 ⟨v1, rfl, hown1, hb1⟩; obtain ⟨hB1, hC1, hF1, hZ1⟩ := K.bel_facts hb1; clear hb1 hown1))
    go_ret2
    exact ⟨_, rfl, World.ownsRow_nil _ _ _ _, (by repeat (first | (with_reducible exact Below.refl _ _) | (with_reducible refine K.b_bel ?_ (by assumption)) | (with_reducible refine K.b_alloc ?_ _) | (with_reducible refine K.b_drewN ?_ _) | (with_reducible refine K.b_drew ?_) | (with_reducible refine K.b_set ?_ (by first | omega | (simp <;> omega)) _) | (with_reducible refine K.b_only ?_ (by assumption) (by first | omega | (simp <;> omega)))))⟩
theorem Counts_c (ids : List Int) (clients size : Int) (seed : Nat) (A : Option Addr) (n c : Nat) (w : World) (hr : Sl.Rds w 1 A n (ids.flatMap fun n => [.int .i64 n])) (hs : seed < 18446744073709551616) :
    Calls Try.prog 17 #[.slice A n c, .int .i64 clients, .int .i64 size, .int .u64 seed] w (OfPost w (cntL ids clients size seed) (cntE ids clients size)) := by
  unfold cntL
  by_cases h : ofE ids 0 size = 0
  · by_cases h2 : clients < 0 ∨ 256 < clients
    · rw [show cntE ids clients size = 4 by unfold cntE; rw [if_pos h, if_pos h2], if_neg (by decide)]
      exact counts_range ids clients size seed A n c w hr hs h h2
    · rw [show cntE ids clients size = 0 by unfold cntE; rw [if_pos h, if_neg h2], if_pos rfl]
      obtain ⟨C, rfl⟩ := Int.eq_ofNat_of_zero_le (show 0 ≤ clients by omega)
      have hl := hr.length (fun _ => rfl) (by omega)
      have := eChk_len (ofE_ok h).1
      exact CountsG (fun c => oOf ids c size seed) (fun c => ofE ids c size) ids C size seed A n c w hr (by omega) (by omega) (eChk_rise (ofE_ok h).1).1 h (fun c => oOf_in.1) (fun c => oOf_in.2)
        (fun k W hb => of_c ids k size seed A n c W (hr.below hb) hs)
  · rw [show cntE ids clients size = ofE ids 0 size by unfold cntE; rw [if_neg h], if_neg h]
    exact counts_bad ids clients size seed A n c w hr hs h
end Go.Proofs.Ytpafbjffecpdmaa.Sb
