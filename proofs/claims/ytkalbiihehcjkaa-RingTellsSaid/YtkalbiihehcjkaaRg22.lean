/- Ring: alive; the walk of RingOrder. -/
import Derived.Test.YtkalbiihehcjkaaRg21
set_option linter.unusedVariables false
namespace Go.Proofs.Ytkalbiihehcjkaa.Rg
open Go.RowKit Go.Proofs.Ytkalbiihehcjkaa
set_option linter.unusedSimpArgs false
theorem num_c (a : Int) (w : World) : Calls Try.prog 11 #[.int .i64 a] w fun e w' => e = .returned (.int .i64 a) ∧ w' = w := by
  go_enter Try.func11, Try.ntmps11
  go_wp2
  go_ret
  exact ⟨rfl, rfl⟩
theorem rds_l4 (W : World) (g : Nat) (h : K.At W g 33 #[.int .i64 4, .int .i64 2]) : Sl.Rds W 2 (some ⟨g, 0, none⟩) 1 (L4.flatMap Bk.cs) :=
  ⟨by simp [L4, Bk.cs], by simp [maxLen], fun _ => ⟨g, 0, rfl, h.lt, fun j hj => by rw [Nat.zero_add, h.cell]; simp [L4, Bk.cs]⟩⟩
set_option maxRecDepth 100000 in
set_option maxHeartbeats 4000000 in
theorem alive_c (w : World) : Calls Try.prog 9 #[] w fun e w' => e = .returned (.bool true) ∧ Below w.heap.size w w' := by
  obtain ⟨R, hR⟩ : ∃ R, R = oBuild 3 L4 := ⟨_, rfl⟩
  have GB := K.H.mk (show ∀ (W : World) (g : Nat), K.At W g 33 #[.int .i64 4, .int .i64 2] → Calls Try.prog 10 #[.int .i64 3, .slice (some ⟨g, 0, none⟩) 1 1] W (BPost W R 0) from fun W g h => by
    have := Build_c L4 3 _ 1 1 W (rds_l4 W g h)
    rw [l4_e, ← hR] at this; exact this)
  have GL := K.H.mk (show ∀ (W : World) (A : Option Addr) (c : Nat), Sl.Rds W 2 A 6 (R.flatMap Pt.cs) → Calls Try.prog 15 #[.slice A 6 c, .int .u64 12345] W fun e w' => e = .returned (.tuple #[.int .i64 4, .int .i64 0]) ∧ Below W.heap.size W w' from fun W A c h => by
    have := Lookup_c R 12345 A 6 c W h
    rw [hR, l4_ask, l4_look] at this; exact this)
  have hl : R.length = 6 := by rw [hR, l4_len]
  clear hR
  go_enter Try.func9, Try.ntmps9
  go_wp2_with (first
    | (go_at_call 10; (with_reducible refine (GB.out _ _ ?r1).mono ?_); (case r1 => exact K.At.new' _ _ _ _ (by simp)); rintro e W3 ⟨v3, rfl, hown3, hb3⟩; obtain ⟨hB3, hC3, hF3, hZ3⟩ := K.bel_facts hb3; clear hb3; rw [hl] at hown3; obtain ⟨A3, c3, rfl, hR3⟩ := Sl.Rds.of_own hown3; clear hown3)
    | (go_at_call 15; (with_reducible refine (GL.out _ _ _ hR3).mono ?_); rintro e W4 ⟨rfl, hb4⟩; obtain ⟨hB4, hC4, hF4, hZ4⟩ := K.bel_facts hb4; clear hb4)
    | (go_at_call 11; (with_reducible refine (num_c _ _).mono ?_); rintro e w' ⟨rfl, hw'⟩; have hw'2 := Eq.symm hw'; clear hw'; subst hw'2))
  go_ret
  exact ⟨rfl, (by repeat (first | (with_reducible exact Below.refl _ _) | (with_reducible refine K.b_bel ?_ (by assumption)) | (with_reducible refine K.b_alloc ?_ _) | (with_reducible refine K.b_drewN ?_ _) | (with_reducible refine K.b_drew ?_) | (with_reducible refine K.b_set ?_ (by first | omega | (simp <;> omega)) _) | (with_reducible refine K.b_only ?_ (by assumption) (by first | omega | (simp <;> omega)))))⟩
end Go.Proofs.Ytkalbiihehcjkaa.Rg
