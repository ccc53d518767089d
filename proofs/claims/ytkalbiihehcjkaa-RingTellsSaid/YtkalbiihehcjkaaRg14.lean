/- Ring: first, Lookup. -/
import Derived.Test.YtkalbiihehcjkaaRg13
set_option linter.unusedVariables false
namespace Go.Proofs.Ytkalbiihehcjkaa.Rg
open Go.RowKit Go.Proofs.Ytkalbiihehcjkaa
set_option linter.unusedSimpArgs false
/-- Whose a hash is, on a ring that has points. -/
def lookI (l : List Pt) (h : Int) : Int := ((l[ahead l h % l.length]?).getD ⟨0, 0⟩).i
set_option maxRecDepth 100000 in
set_option maxHeartbeats 2000000 in
theorem first_c (l : List Pt) (h : Int) (A : Option Addr) (n c : Nat) (w : World) (hr : Sl.Rds w 2 A n (l.flatMap Pt.cs)) (h0 : 0 < n) (hn : n ≤ 1024) :
    Calls Try.prog 36 #[.agg #[.slice A n c, .int .i64 (ahead l h : Nat)]] w fun e w' => e = .returned (.int .i64 (lookI l h)) ∧ Below w.heap.size w w' := by
  obtain rfl := hr.length Pt.cs_len (by omega)
  have hle := hr.le
  have Hr := K.H.mk hr
  have hk : ahead l h ≤ l.length := List.countP_le_length
  have hm := Nat.mod_lt (ahead l h) h0
  obtain ⟨x, hx⟩ : ∃ x, l[ahead l h % l.length]? = some x := ⟨_, List.getElem?_eq_getElem hm⟩
  rw [show lookI l h = x.i by unfold lookI; rw [hx]; rfl]
  have hmo : ((ahead l h : Nat) : Int).tmod (l.length : Int) = ((ahead l h % l.length : Nat) : Int) := by rw [Int.natCast_emod]; exact Int.tmod_eq_emod_of_nonneg (by omega)
  have hz : (l.length : Int) ≠ 0 := by omega
  have hzn : l.length ≠ 0 := by omega
  obtain ⟨b, off, rfl, hbl, hbc⟩ := Sl.Rds.elem Hr.out Pt.cs_len (by omega) hx
  have q_0 : w.cell? ⟨b, off + (ahead l h % l.length) * 2, none⟩ = some (.int .u64 x.h) := ((Below.refl _ _ : Below w.heap.size w w).cell (p := ⟨b, off + (ahead l h % l.length) * 2 + 0, none⟩) hbl).trans (hbc 0 (by omega))
  have q_1 : w.cell? ⟨b, off + (ahead l h % l.length) * 2 + 1, none⟩ = some (.int .i64 x.i) := ((Below.refl _ _ : Below w.heap.size w w).cell (p := ⟨b, off + (ahead l h % l.length) * 2 + 1, none⟩) hbl).trans (hbc 1 (by omega))
  clear hbc
  have hml : ((ahead l h % l.length : Nat) : Int) < (l.length : Int) := by omega
  clear hr hx
  generalize ahead l h % l.length = m at *
  generalize ahead l h = k at *
  have hm0 : (0 : Int) ≤ (m : Int) := by omega
  go_enter Try.func36, Try.ntmps36
  go_wp2
  refine K.wp_region_ext_lit (by kernel_rfl) (by kernel_rfl) ?_
  repeat (any_goals (first | go_big_quiet_skip | quiet_step (fail) | (refine wpQuiet_step (fun K hK => ?_); go_simp; split <;> (refine hK _ ?_; clear hK K))))
  all_goals (refine wpQuiet_nil ?_; intro W9 hW9; obtain ⟨hB9, hC9, hF9, hZ9⟩ := K.ext_facts hW9; clear hW9)
  all_goals go_wp2
  go_ret
  exact ⟨rfl, (by repeat (first | (with_reducible exact Below.refl _ _) | (with_reducible refine K.b_bel ?_ (by assumption)) | (with_reducible refine K.b_alloc ?_ _) | (with_reducible refine K.b_drewN ?_ _) | (with_reducible refine K.b_drew ?_) | (with_reducible refine K.b_set ?_ (by first | omega | (simp <;> omega)) _) | (with_reducible refine K.b_only ?_ (by assumption) (by first | omega | (simp <;> omega)))))⟩
end Go.Proofs.Ytkalbiihehcjkaa.Rg
