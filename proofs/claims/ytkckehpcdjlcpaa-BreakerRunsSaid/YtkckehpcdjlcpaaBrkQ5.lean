/- BreakerRuns: the walk. -/
import Derived.Test.YtkckehpcdjlcpaaBrkQ4
import Derived.Test.YtkckehpcdjlcpaaBrkL1
import Derived.Test.YtkckehpcdjlcpaaSame
namespace Go.Proofs.Ytkckehpcdjlcpaa.Brk
open Go.RowKit Go.Proofs.Ytkckehpcdjlcpaa
attribute [local go_sem] K.max2_int K.min2_int K.max_two K.min_two K.max_three K.min_three
set_option linter.unusedVariables false
set_option linter.unusedSimpArgs false
def B.same (u v : B) : Bool := (u.mode == v.mode) && (u.fails == v.fails) && (u.til == v.til) && (u.probes == v.probes) && (u.wins == v.wins)
theorem B.same_iff {u v : B} : B.same u v = true ↔ u = v := by
  obtain ⟨a0, a1, a2, a3, a4⟩ := u
  obtain ⟨b0, b1, b2, b3, b4⟩ := v
  simp [B.same, and_assoc]
theorem B.same_f {u v : B} : B.same u v = false ↔ u ≠ v := by
  rw [← Bool.not_eq_true, B.same_iff]
theorem B.eqIn (u v : B) (W : World) : (Op.equalIn 10000 23 (.agg #[.int .i64 u.mode, .int .i64 u.fails, .int .i64 u.til, .int .i64 u.probes, .int .i64 u.wins]) (.agg #[.int .i64 v.mode, .int .i64 v.fails, .int .i64 v.til, .int .i64 v.probes, .int .i64 v.wins])).run Try.prog W = .ok (B.same u v) W := by
  have hst : Try.prog.stoodInHeld 23 = false := by kernel_rfl
  have hf : Try.prog.underlying 23 = some (.struct (Try.prog.fieldsOf 23)) := by kernel_rfl
  rw [run_equalIn_agg W 9999 _ _ _ hf hst]
  have hi : Try.prog.underlying 3 = some (.int .i64) := by kernel_rfl
  have hb := hi
  have hu := hi
  unfold Program.fieldsOf
  rw [show Try.prog.underlying 23 = _ from Try.underlying23]
  simp [Go.Op.eqFields, part, go_sem, hi, hb, hu, run_equalIn_int, run_equalIn_bool', B.same]
  (repeat' split) <;> simp_all
theorem B.eql (u v : B) (W : World) : (binOp .eql 23 (.agg #[.int .i64 u.mode, .int .i64 u.fails, .int .i64 u.til, .int .i64 u.probes, .int .i64 u.wins]) (.agg #[.int .i64 v.mode, .int .i64 v.fails, .int .i64 v.til, .int .i64 v.probes, .int .i64 v.wins])).run Try.prog W = .ok (.bool (B.same u v)) W := by
  rw [run_eql_struct, B.eqIn]; rfl
theorem B.neq (u v : B) (W : World) : (binOp .neq 23 (.agg #[.int .i64 u.mode, .int .i64 u.fails, .int .i64 u.til, .int .i64 u.probes, .int .i64 u.wins]) (.agg #[.int .i64 v.mode, .int .i64 v.fails, .int .i64 v.til, .int .i64 v.probes, .int .i64 v.wins])).run Try.prog W = .ok (.bool (!B.same u v)) W := by
  rw [run_neq_struct, B.eqIn]; rfl
theorem B.guard (op : BinOp) (x y : Operand) (u v : B) (W : World) : (eqGuard op 23 x y (.agg #[.int .i64 u.mode, .int .i64 u.fails, .int .i64 u.til, .int .i64 u.probes, .int .i64 u.wins]) (.agg #[.int .i64 v.mode, .int .i64 v.fails, .int .i64 v.til, .int .i64 v.probes, .int .i64 v.wins])).run Try.prog W = .ok () W :=
  run_eqGuard_agg W op 23 x y _ _ (by kernel_rfl)
theorem rRun_c (s : S) (xs : List Act) (A : Option Addr) (n c : Nat) (w : World) (hr : Sl.Rds w 4 A n (xs.flatMap Act.cs)) :
    Calls Try.prog 17 #[s.a, .slice A n c] w (RunPost w (oRun s xs).1 (oRun s xs).2 (eRun s xs)) := by
  unfold oRun
  by_cases h : eRun s xs = 0
  · rw [if_pos h, h]; exact rRun_ok s xs A n c w hr h
  · rw [if_neg h]; exact rRun_bad s xs A n c w hr h
set_option maxRecDepth 100000 in
set_option maxHeartbeats 4000000 in
theorem RunsLaw_c (s : S) (xs : List Act) (A : Option Addr) (n c : Nat) (w : World) (hr : Sl.Rds w 4 A n (xs.flatMap Act.cs)) :
    Calls Try.prog 5 #[s.a, .slice A n c] w fun e w' => e = .returned (.bool true) ∧ Below w.heap.size w w' := by
  have G1 := K.H.mk (fun (W : World) (hb : Below w.heap.size w W) => Run_c s xs A n c W (hr.below hb))
  have G2 := K.H.mk (fun (W : World) (hb : Below w.heap.size w W) => rRun_c s xs A n c W (hr.below hb))
  have GL := K.H.mk (fun (W : World) => alive_c W)
  generalize oRun s xs = r at *
  generalize eRun s xs = er at *
  obtain ⟨b, L⟩ := r
  dsimp only at G1 G2
  have hq := fun W => B.eql b b W
  have hg := fun o p q W => B.guard o p q b b W
  rw [show B.same b b = true from B.same_iff.2 rfl] at hq
  have hee : (er == er) = true := by simp
  have GSI := K.H.mk (fun (B C : Option Addr) (d e : Nat) (W : World) (h1 : Sl.Rds W 1 B L.length (L.flatMap fun n => [.int .i64 n])) (h2 : Sl.Rds W 1 C L.length (L.flatMap fun n => [.int .i64 n])) => show Calls Try.prog 18 #[.slice B L.length d, .slice C L.length e] W fun e w' => e = .returned (.bool true) ∧ Below W.heap.size W w' by
    have := Sl.same_c L L B C L.length L.length d e W h1 h2; simpa using this)
  clear hr
  go_enter Try.func5, Try.ntmps5
  go_wp2_with (first
    | (go_at_call 16; (with_reducible refine (G1.out _ (by repeat (first | (with_reducible exact Below.refl _ _) | (with_reducible refine K.b_bel ?_ (by assumption)) | (with_reducible refine K.b_alloc ?_ _) | (with_reducible refine K.b_drewN ?_ _) | (with_reducible refine K.b_drew ?_) | (with_reducible refine K.b_set ?_ (by first | omega | (simp <;> omega)) _) | (with_reducible refine K.b_only ?_ (by assumption) (by first | omega | (simp <;> omega)))))).mono ?_); rintro e W1 ⟨v1, rfl, hown1, hb1⟩; obtain ⟨hB1, hC1, hF1, hZ1⟩ := K.bel_facts hb1; clear hb1; obtain ⟨B1, d1, rfl, hR1⟩ := Sl.Rds.of_own hown1; rw [Sl.map_flat] at hR1; clear hown1; have hS1 : K.At W1 w.heap.size 25 #[.int .i64 s.fails, .int .i64 s.opn, .int .i64 s.probes] := (by refine K.At.cast (by repeat (first | (with_reducible refine K.At.new' _ _ _ _ (by first | rfl | (simp; done) | omega)) | (with_reducible apply K.At.over hB1) | (with_reducible apply K.At.set) | (with_reducible apply K.At.alloc) | (with_reducible apply K.At.drewN) | (with_reducible apply K.At.drew) | (with_reducible apply K.At.far) | omega | (simp <;> omega))) ?_; rfl); obtain ⟨hc1, hf1, hl1⟩ := K.At.facts hS1)
    | (go_at_call 17; (with_reducible refine (G2.out _ (by repeat (first | (with_reducible exact Below.refl _ _) | (with_reducible refine K.b_bel ?_ (by assumption)) | (with_reducible refine K.b_alloc ?_ _) | (with_reducible refine K.b_drewN ?_ _) | (with_reducible refine K.b_drew ?_) | (with_reducible refine K.b_set ?_ (by first | omega | (simp <;> omega)) _) | (with_reducible refine K.b_only ?_ (by assumption) (by first | omega | (simp <;> omega)))))).mono ?_); rintro e W2 ⟨v2, rfl, hown2, hb2⟩; obtain ⟨hB2, hC2, hF2, hZ2⟩ := K.bel_facts hb2; clear hb2; obtain ⟨B2, d2, rfl, hR2⟩ := Sl.Rds.of_own hown2; rw [Sl.map_flat] at hR2; clear hown2; have hP2 : K.At W2 W1.heap.size 23 #[.int .i64 b.mode, .int .i64 b.fails, .int .i64 b.til, .int .i64 b.probes, .int .i64 b.wins] := (by refine K.At.cast (by repeat (first | (with_reducible refine K.At.new' _ _ _ _ (by first | rfl | (simp; done) | omega)) | (with_reducible apply K.At.over hB2) | (with_reducible apply K.At.set) | (with_reducible apply K.At.alloc) | (with_reducible apply K.At.drewN) | (with_reducible apply K.At.drew) | (with_reducible apply K.At.far) | omega | (simp <;> omega))) ?_; rfl); obtain ⟨hc2, hf2, hl2⟩ := K.At.facts hP2)
    | (go_at_call 18; (with_reducible refine (GSI.out _ _ _ _ _ ?r1 ?r2).mono ?_); (case r1 => exact (hR1.below (by repeat (first | (with_reducible exact Below.refl _ _) | (with_reducible refine K.b_bel ?_ (by assumption)) | (with_reducible refine K.b_alloc ?_ _) | (with_reducible refine K.b_drewN ?_ _) | (with_reducible refine K.b_drew ?_) | (with_reducible refine K.b_set ?_ (by first | omega | (simp <;> omega)) _) | (with_reducible refine K.b_only ?_ (by assumption) (by first | omega | (simp <;> omega))))))); (case r2 => exact (hR2.below (by repeat (first | (with_reducible exact Below.refl _ _) | (with_reducible refine K.b_bel ?_ (by assumption)) | (with_reducible refine K.b_alloc ?_ _) | (with_reducible refine K.b_drewN ?_ _) | (with_reducible refine K.b_drew ?_) | (with_reducible refine K.b_set ?_ (by first | omega | (simp <;> omega)) _) | (with_reducible refine K.b_only ?_ (by assumption) (by first | omega | (simp <;> omega))))))); rintro e W3 ⟨rfl, hb3⟩; obtain ⟨hB3, hC3, hF3, hZ3⟩ := K.bel_facts hb3; clear hb3)
    | (go_at_call 8; (with_reducible refine (GL.out _).mono ?_); rintro e W4 ⟨rfl, hb4⟩; obtain ⟨hB4, hC4, hF4, hZ4⟩ := K.bel_facts hb4; clear hb4)
    | (go_at_call 10; (with_reducible refine (num_c _ _).mono ?_); rintro e w' ⟨rfl, hw'⟩; have hw'2 := Eq.symm hw'; clear hw'; subst hw'2))
  go_ret
  exact ⟨rfl, (by repeat (first | (with_reducible exact Below.refl _ _) | (with_reducible refine K.b_bel ?_ (by assumption)) | (with_reducible refine K.b_alloc ?_ _) | (with_reducible refine K.b_drewN ?_ _) | (with_reducible refine K.b_drew ?_) | (with_reducible refine K.b_set ?_ (by first | omega | (simp <;> omega)) _) | (with_reducible refine K.b_only ?_ (by assumption) (by first | omega | (simp <;> omega)))))⟩
end Go.Proofs.Ytkckehpcdjlcpaa.Brk
