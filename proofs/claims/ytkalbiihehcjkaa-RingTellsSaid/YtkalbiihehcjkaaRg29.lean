/- Ring: a map[int]bool of the call's own: a set of numbers. -/
import Derived.Test.YtkalbiihehcjkaaRg28
import Derived.Maps.OwnIn
import Derived.Maps.Views
import Derived.RangeFuncWrites
set_option linter.unusedVariables false
namespace Go.Proofs.Ytkalbiihehcjkaa.Rg
open Go.RowKit Go.Shelf Go.Proofs.Ytkalbiihehcjkaa
set_option linter.unusedSimpArgs false
abbrev DW := DataW Unit
/-- Block b is a map of at most n entries that holds true at the numbers of S, and nothing else. -/
def Met (W : World) (b n : Nat) (S : List Int) : Prop := ∃ D : DW, W.ownsMap Try.prog 3 (plainElem Try.prog 4) b n D ∧ Maps.IsMap D ∧
  ∀ i : Int, D.atKey (.int .i64 i) (.lit (.bool false)) = .lit (.bool (decide (i ∈ S)))
theorem u_int : Try.prog.underlying 3 = some (.int .i64) := by kernel_rfl
theorem u_bool : Try.prog.underlying 4 = some .bool := by kernel_rfl
theorem u_map : Try.prog.underlying 71 = some (.map 3 4) := by kernel_rfl
theorem K_int : Maps.Keyed Try.prog 3 := Maps.int_keyed u_int
theorem met_made (w : World) : Met (w.alloc (.map #[] 0)) w.heap.size 0 [] :=
  ⟨.map [], World.ownsMap_made w _ _ _, Maps.isMap_empty, fun i => by simp [DataW.atKey]⟩
theorem Met.kept {W W' : World} {b n : Nat} {S : List Int} {row : Option Nat} (h : Met W b n S) (hg : W.grownBy W' row) (hne : some b ≠ row) : Met W' b n S := by
  obtain ⟨D, h1, h2, h3⟩ := h
  exact ⟨D, h1.kept hg hne, h2, h3⟩
theorem Met.alloc {W : World} {b n : Nat} {S : List Int} (h : Met W b n S) (o : Obj) : Met (W.alloc o) b n S := h.kept (World.grownBy_alloc W o none) (by simp)
theorem Met.lt {W : World} {b n : Nat} {S : List Int} (h : Met W b n S) : b < W.heap.size := by
  obtain ⟨D, h1, _⟩ := h; exact h1.lt
theorem plainElem_bool_inv {v : Value} {z : DW × List MemPlace} (h : plainElem Try.prog 4 v = some z) : ∃ x, v = .bool x ∧ z = (.lit (.bool x), []) := by
  unfold plainElem at h
  rw [u_bool] at h
  cases v <;> simp at h
  exact ⟨_, rfl, h.symm⟩
theorem Met.lookup {W : World} {b n : Nat} {S : List Int} (h : Met W b n S) {i : Int} (hw : (Lit.int .i64 i).wf = true) : (Instr.lookup 71 (.map (some b)) (.int .i64 i) false).run Try.prog W = .ok (.bool (decide (i ∈ S))) W := by
  obtain ⟨D, h1, _, h3⟩ := h
  obtain ⟨v, ps, hrun, hv⟩ := h1.lookup K_int u_map (z := .bool false) (by go_simp) (plainElem_bool u_bool false) (Maps.keyOf_int_mk u_int hw)
  obtain ⟨x, rfl, hx⟩ := plainElem_bool_inv hv
  rw [hrun]
  simp only [Prod.mk.injEq] at hx
  have h4 := hx.1
  rw [h3 i] at h4
  simp only [DataW.lit.injEq, Lit.bool.injEq] at h4
  rw [h4]
/-- One number more. -/
def addN (S : List Int) (i : Int) : List Int := if i ∈ S then S else S ++ [i]
theorem addN_mem (S : List Int) (i j : Int) : j ∈ addN S i ↔ j ∈ S ∨ j = i := by
  unfold addN
  split
  · rename_i h
    constructor
    · exact .inl
    · rintro (h1 | rfl)
      · exact h1
      · exact h
  · simp
section
variable {F : Fence} {nF : Nat} {w : World} {ops : Array Oper} {rest : List Oper} {o : Oper} {a : Go.Act} {Q : Exit → Go.Act → World → Prop}
theorem wpIn_met {b n : Nat} {S : List Int} {i : Int} (hg : o.guard = none) (m x v : Operand) (hop : o.op = Op.mapUpdate 71 m x v)
    (hm : a.eval m = .map (some b)) (h : Met w b n S) (hn : n < 9223372036854775807) (hx : a.eval x = .int .i64 i) (hv : a.eval v = .bool true) (hw : (Lit.int .i64 i).wf = true)
    (hK : ∀ w', Met w' b (n + 1) (addN S i) → w.grownBy w' (some b) → wpListIn F nF Try.prog ops Q rest (a.put o.dst undef) w') : wpListIn F nF Try.prog ops Q (o :: rest) a w := by
  obtain ⟨D, h1, h2, h3⟩ := h
  refine wpListIn_mapUpdate_own w hg m x v 71 hop 3 4 K_int u_map _ b n D hm h1 (by simpa [maxLen] using hn) _ _ _ hx hv (Maps.keyOf_int_mk u_int hw) _ _ (plainElem_bool u_bool true) (fun w' h4 h5 => hK w' ⟨_, h4, h2.put _ _, fun j => ?_⟩ h5)
  by_cases hj : j = i
  · subst hj
    rw [Maps.atKey_put_same h2 (show WideAt.IsKeyLit (Lit.int .i64 j) from trivial), decide_eq_true ((addN_mem _ _ _).2 (.inr rfl))]
  · rw [Maps.atKey_put_other (fun e => hj (by cases e; rfl)), h3 j]
    congr 3
    rw [addN_mem]
    simp [hj]
end
end Go.Proofs.Ytkalbiihehcjkaa.Rg
