/- Timer: a map[int]bool of the call's own: a set of numbers. -/
import Derived.Test.YtmoaekjkihbicaaTm1
import Derived.Maps.Own
import Derived.Maps.Views
import Derived.Carry
set_option linter.unusedVariables false
namespace Go.Proofs.Ytmoaekjkihbicaa.Tm
open Go.RowKit Go.Proofs.Ytmoaekjkihbicaa
set_option linter.unusedSimpArgs false
abbrev DW := DataW Unit
/-- Block b is a map of at most n entries that holds true at the numbers of S, and nothing else. -/
def Met (W : World) (b n : Nat) (S : List Int) : Prop := ∃ D : DW, W.ownsMap Try.prog 3 (plainElem Try.prog 4) b n D ∧ Maps.IsMap D ∧
  ∀ i : Int, D.atKey (.int .i64 i) (.lit (.bool false)) = .lit (.bool (decide (i ∈ S)))
theorem u_int : Try.prog.underlying 3 = some (.int .i64) := by kernel_rfl
theorem u_bool : Try.prog.underlying 4 = some .bool := by kernel_rfl
theorem u_map : Try.prog.underlying 64 = some (.map 3 4) := by kernel_rfl
theorem K_int : Maps.Keyed Try.prog 3 := Maps.int_keyed u_int
theorem met_made (w : World) : Met (w.alloc (.map #[] 0)) w.heap.size 0 [] :=
  ⟨.map [], World.ownsMap_made w _ _ _, Maps.isMap_empty, fun i => by simp [DataW.atKey]⟩
theorem Met.kept {W W' : World} {b n : Nat} {S : List Int} {row : Option Nat} (h : Met W b n S) (hg : W.grownBy W' row) (hne : some b ≠ row) : Met W' b n S := by
  obtain ⟨D, h1, h2, h3⟩ := h
  exact ⟨D, h1.kept hg hne, h2, h3⟩
theorem Met.alloc {W : World} {b n : Nat} {S : List Int} (h : Met W b n S) (o : Obj) : Met (W.alloc o) b n S := h.kept (World.grownBy_alloc W o none) (by simp)
theorem Met.lt {W : World} {b n : Nat} {S : List Int} (h : Met W b n S) : b < W.heap.size := by
  obtain ⟨D, h1, _⟩ := h; exact h1.lt
theorem plainElem_bool_inv {v : Value} {z : DW × List MemPlace} (h : plainElem Try.prog 4 v = some z) : ∃ x, v = .bool x ∧ z = (.lit (.bool x), []) := by
  unfold plainElem at h
  rw [u_bool] at h
  cases v <;> simp at h
  exact ⟨_, rfl, h.symm⟩
theorem Met.lookup {W : World} {b n : Nat} {S : List Int} (h : Met W b n S) {i : Int} (hw : (Lit.int .i64 i).wf = true) : (Instr.lookup 64 (.map (some b)) (.int .i64 i) false).run Try.prog W = .ok (.bool (decide (i ∈ S))) W := by
  obtain ⟨D, h1, _, h3⟩ := h
  obtain ⟨v, ps, hrun, hv⟩ := h1.lookup K_int u_map (z := .bool false) (by go_simp) (plainElem_bool u_bool false) (Maps.keyOf_int_mk u_int hw)
  obtain ⟨x, rfl, hx⟩ := plainElem_bool_inv hv
  rw [hrun]
  simp only [Prod.mk.injEq] at hx
  have h4 := hx.1
  rw [h3 i] at h4
  simp only [DataW.lit.injEq, Lit.bool.injEq] at h4
  rw [h4]
/-- One number more. -/
def addN (S : List Int) (i : Int) : List Int := if i ∈ S then S else S ++ [i]
theorem addN_mem (S : List Int) (i j : Int) : j ∈ addN S i ↔ j ∈ S ∨ j = i := by
  unfold addN
  split
  · rename_i h
    constructor
    · exact .inl
    · rintro (h1 | rfl)
      · exact h1
      · exact h
  · simp
section
variable {w : World} {ops : Array Oper} {rest : List Oper} {o : Oper} {a : Go.Act} {Q : Exit → Go.Act → World → Prop}
theorem wp_met {b n : Nat} {S : List Int} {i : Int} (hg : o.guard = none) (m x v : Operand) (hop : o.op = Op.mapUpdate 64 m x v)
    (hm : a.eval m = .map (some b)) (h : Met w b n S) (hn : n < 9223372036854775807) (hx : a.eval x = .int .i64 i) (hv : a.eval v = .bool true) (hw : (Lit.int .i64 i).wf = true)
    (hK : ∀ w', Met w' b (n + 1) (addN S i) → w.grownBy w' (some b) → wpList Try.prog ops Q rest (a.put o.dst undef) w') : wpList Try.prog ops Q (o :: rest) a w := by
  obtain ⟨D, h1, h2, h3⟩ := h
  refine wpList_mapUpdate_own w hg m x v 64 hop 3 4 K_int u_map _ b n D hm h1 (by simpa [maxLen] using hn) _ _ _ hx hv (Maps.keyOf_int_mk u_int hw) _ _ (plainElem_bool u_bool true) (fun w' h4 h5 => hK w' ⟨_, h4, h2.put _ _, fun j => ?_⟩ h5)
  by_cases hj : j = i
  · subst hj
    rw [Maps.atKey_put_same h2 (show WideAt.IsKeyLit (Lit.int .i64 j) from trivial), decide_eq_true ((addN_mem _ _ _).2 (.inr rfl))]
  · rw [Maps.atKey_put_other (fun e => hj (by cases e; rfl)), h3 j]
    congr 3
    rw [addN_mem]
    simp [hj]
end
theorem at_ne_met {W : World} {g b n : Nat} {T : TypeId} {cs : Array Value} {S : List Int} (h : K.At W g T cs) (hm : Met W b n S) : g ≠ b := by
  rintro rfl
  obtain ⟨D, ⟨es, cl, hb, _⟩, _⟩ := hm
  rw [h.out] at hb; cases hb
theorem addN_nodup {S : List Int} (h : S.Nodup) (x : Int) : (addN S x).Nodup := by
  unfold addN
  split
  · exact h
  · rename_i hx
    rw [List.nodup_append]
    refine ⟨h, by simp, ?_⟩
    intro a ha b hb
    simp at hb; subst hb
    rintro rfl
    exact hx ha
/-! ### a queue, plain -/
def badAt (l : List Tm) (i : Nat) : Bool := decide (0 < i) && (l.getD i ⟨0, 0⟩).lt (l.getD ((i - 1) / 2) ⟨0, 0⟩)
def isHeap (l : List Tm) : Prop := ∀ i, i < l.length → badAt l i = false
instance (l : List Tm) : Decidable (isHeap l) := by unfold isHeap; infer_instance
def eChk (l : List Tm) : Int := if 1024 < l.length then 3 else if Sl.anyOf Tm.odd l = true then 4 else if ¬ (l.map Tm.id).Nodup then 6 else if isHeap l then 0 else 9
set_option maxRecDepth 100000 in
set_option maxHeartbeats 2000000 in
theorem ahead_c (l : List Tm) (i j : Nat) (x y : Tm) (A : Option Addr) (n c : Nat) (w : World) (hr : Sl.Rds w 2 A n (l.flatMap Tm.cs)) (hx : l[i]? = some x) (hy : l[j]? = some y) :
    Calls Try.prog 35 #[.slice A n c, .int .i64 i, .int .i64 j] w fun e w' => e = .returned (.bool (x.lt y)) ∧ Below w.heap.size w w' := by
  obtain rfl := hr.length Tm.cs_len (by omega)
  have hle := hr.le
  have Hr := K.H.mk hr
  have GO := K.H.mk (fun (W : World) => order_c x y W)
  obtain ⟨v, hv⟩ : ∃ v, v = x.cmp y := ⟨_, rfl⟩
  have HV := K.H.mk (show decide (v < 0) = x.lt y by rw [hv]; exact cmp_lt x y)
  rw [← hv] at GO
  have h1 := (List.getElem?_eq_some_iff.1 hx).1
  have h2 := (List.getElem?_eq_some_iff.1 hy).1
  rw [← HV.out]
  obtain ⟨b, off, rfl, hbl, hbc⟩ := Sl.Rds.elem Hr.out Tm.cs_len (by omega) hx
  have q_0 : w.cell? ⟨b, off + i * 2, none⟩ = some (.int .i64 x.t) := ((Below.refl _ _ : Below w.heap.size w w).cell (p := ⟨b, off + i * 2 + 0, none⟩) hbl).trans (hbc 0 (by omega))
  have q_1 : w.cell? ⟨b, off + i * 2 + 1, none⟩ = some (.int .i64 x.id) := ((Below.refl _ _ : Below w.heap.size w w).cell (p := ⟨b, off + i * 2 + 1, none⟩) hbl).trans (hbc 1 (by omega))
  clear hbc
  obtain ⟨b5, off5, hee5, hbl5, hbc5⟩ := Sl.Rds.elem Hr.out Tm.cs_len (by omega) hy
  cases hee5
  have q5_0 : w.cell? ⟨b, off + j * 2, none⟩ = some (.int .i64 y.t) := ((Below.refl _ _ : Below w.heap.size w w).cell (p := ⟨b, off + j * 2 + 0, none⟩) hbl5).trans (hbc5 0 (by omega))
  have q5_1 : w.cell? ⟨b, off + j * 2 + 1, none⟩ = some (.int .i64 y.id) := ((Below.refl _ _ : Below w.heap.size w w).cell (p := ⟨b, off + j * 2 + 1, none⟩) hbl5).trans (hbc5 1 (by omega))
  clear hbc5
  have hi1 : (i : Int) < (l.length : Int) := by omega
  have hi0 : (0 : Int) ≤ (i : Int) := by omega
  have hj1 : (j : Int) < (l.length : Int) := by omega
  have hj0 : (0 : Int) ≤ (j : Int) := by omega
  clear hr hx hy hv HV
  go_enter Try.func35, Try.ntmps35
  go_wp2
  refine K.wp_region_ext_lit (by kernel_rfl) (by kernel_rfl) ?_
  repeat (any_goals (first | go_big_quiet_skip | quiet_step ((go_at_call 38; first | (with_reducible exact K.q_below (GO.out _)))) | (refine wpQuiet_step (fun K hK => ?_); go_simp; split <;> (refine hK _ ?_; clear hK K))))
  all_goals (refine wpQuiet_nil ?_; intro W9 hW9; obtain ⟨hB9, hC9, hF9, hZ9⟩ := K.ext_facts hW9; clear hW9)
  all_goals go_wp2
  go_ret
  exact ⟨rfl, (by repeat (first | (with_reducible exact Below.refl _ _) | (with_reducible refine K.b_bel ?_ (by assumption)) | (with_reducible refine K.b_alloc ?_ _) | (with_reducible refine K.b_drewN ?_ _) | (with_reducible refine K.b_drew ?_) | (with_reducible refine K.b_set ?_ (by first | omega | (simp <;> omega)) _) | (with_reducible refine K.b_only ?_ (by assumption) (by first | omega | (simp <;> omega)))))⟩
end Go.Proofs.Ytmoaekjkihbicaa.Tm
