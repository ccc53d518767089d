/- Ring: a store of a point into a row of one's own; the reference's Build where it is refused. -/
import Derived.Test.YtkalbiihehcjkaaRg21
import Derived.Deep.MidRow
set_option linter.unusedVariables false
namespace Go.Proofs.Ytkalbiihehcjkaa.Rg
open Go.RowKit Go.Proofs.Ytkalbiihehcjkaa
set_option linter.unusedSimpArgs false
theorem flat_set : ∀ (L : List Pt) (k : Nat) (x : Pt), ((L.flatMap Pt.cs).set (k * 2) (.int .u64 x.h)).set (k * 2 + 1) (.int .i64 x.i) = (L.set k x).flatMap Pt.cs
  | [], k, x => rfl
  | y :: r, 0, x => by simp [Pt.cs, List.flatMap_cons]
  | y :: r, k + 1, x => by
    have ih := flat_set r k x
    rw [List.set_cons_succ, List.flatMap_cons, List.flatMap_cons, ← ih, show (k + 1) * 2 = k * 2 + 1 + 1 by omega]
    simp [Pt.cs]
section
variable {P : Program} {ops : Array Oper} {rest : List Oper} {a : Go.Act} {w : World} {Q : Exit → Go.Act → World → Prop}
theorem st_own {ty T2 e : TypeId} {x y : Operand} {pos : String} {after : Array Edge} {base g n cap : Nat} {L : List Pt} (z : Pt) (k : Nat)
    (hown : w.ownsRow base e 2 (.slice (some ⟨g, 0, none⟩) n cap) n (L.flatMap Pt.cs)) (hk : k < n)
    (hx : a.eval x = .pointer (some ⟨g, k * 2, none⟩)) (hy : a.eval y = .agg #[.int .u64 z.h, .int .i64 z.i]) (hi : (P.info? ty).map (·.size) = some 2)
    (h : ∀ W, W.ownsRow base e 2 (.slice (some ⟨g, 0, none⟩) n cap) n ((L.set k z).flatMap Pt.cs) → K.Only w W g → wpList P ops Q rest a W) :
    wpList P ops Q ({ dst := none, op := .store ty x y, type := T2, pos := pos, after := after, guard := none } :: rest) a w := by
  refine wpList_store_mid rfl ty x y rfl g (k * 2) #[.int .u64 z.h, .int .i64 z.i] hx hy (fun j hj => ?_) hi (by simp [Value.oneCell']) (h _ ?_ ?_)
  · have hj2 : j < 2 := hj
    have hl := hown.1
    exact ⟨by rw [hown.cellAt (k * 2 + j) (by omega), List.getElem?_eq_getElem (by omega)]; rfl, hown.frozenAt (k * 2 + j)⟩
  · have h1 := (hown.stored (k * 2) (.int .u64 z.h)).1
    have h2 := (h1.stored (k * 2 + 1) (.int .i64 z.i)).1
    rw [flat_set] at h2
    exact h2
  · exact ⟨K.o_set (K.o_set (K.o_refl w g) _ _) _ _⟩
end
set_option maxRecDepth 100000 in
set_option maxHeartbeats 4000000 in
theorem rbuild_bad (l : List Bk) (p : Int) (A : Option Addr) (n c : Nat) (w : World) (hr : Sl.Rds w 2 A n (l.flatMap Bk.cs)) (h : eChk l ≠ 0) :
    Calls Try.prog 13 #[.int .i64 p, .slice A n c] w (BPost w [] (eChk l)) := by
  have GC := K.H.mk (fun (W : World) (hb : Below w.heap.size w W) => rCheck_c l A n c W (hr.below hb))
  have hd : (eChk l != 0) = true := by simpa using h
  generalize eChk l = er at *
  clear hr h
  go_enter Try.func13, Try.ntmps13
  go_wp2_with (first | (go_at_call 24; (with_reducible refine (GC.out _ (by repeat (first | (with_reducible exact Below.refl _ _) | (with_reducible refine K.b_bel ?_ (by assumption)) | (with_reducible refine K.b_alloc ?_ _) | (with_reducible refine K.b_drewN ?_ _) | (with_reducible refine K.b_drew ?_) | (with_reducible refine K.b_set ?_ (by first | omega | (simp <;> omega)) _) | (with_reducible refine K.b_only ?_ (by assumption) (by first | omega | (simp <;> omega)))))).mono ?_); rintro e W1 ⟨rfl, hb1⟩; obtain ⟨hB1, hC1, hF1, hZ1⟩ := K.bel_facts hb1; clear hb1))
  go_ret2
  exact ⟨_, rfl, World.ownsRow_nil _ _ _ _, (by repeat (first | (with_reducible exact Below.refl _ _) | (with_reducible refine K.b_bel ?_ (by assumption)) | (with_reducible refine K.b_alloc ?_ _) | (with_reducible refine K.b_drewN ?_ _) | (with_reducible refine K.b_drew ?_) | (with_reducible refine K.b_set ?_ (by first | omega | (simp <;> omega)) _) | (with_reducible refine K.b_only ?_ (by assumption) (by first | omega | (simp <;> omega)))))⟩
set_option maxRecDepth 100000 in
set_option maxHeartbeats 4000000 in
theorem rbuild_range (l : List Bk) (p : Int) (A : Option Addr) (n c : Nat) (w : World) (hr : Sl.Rds w 2 A n (l.flatMap Bk.cs)) (h : eChk l = 0) (h2 : p < 1 ∨ 64 < p) :
    Calls Try.prog 13 #[.int .i64 p, .slice A n c] w (BPost w [] 4) := by
  have GC := K.H.mk (fun (W : World) (hb : Below w.heap.size w W) => rCheck_c l A n c W (hr.below hb))
  rw [h] at GC
  have hd : decide (p < 1) = true ∨ (decide (p < 1) = false ∧ decide (64 < p) = true) := by
    by_cases h0 : p < 1
    · exact .inl (decide_eq_true h0)
    · exact .inr ⟨decide_eq_false h0, decide_eq_true (by omega)⟩
  clear hr h h2
  rcases hd with d1 | ⟨d1, d2⟩
  all_goals
    go_enter Try.func13, Try.ntmps13
    go_wp2_with (first | (go_at_call 24; (with_reducible refine (GC.out _ (by repeat (first | (with_reducible exact Below.refl _ _) | (with_reducible refine K.b_bel ?_ (by assumption)) | (with_reducible refine K.b_alloc ?_ _) | (with_reducible refine K.b_drewN ?_ _) | (with_reducible refine K.b_drew ?_) | (with_reducible refine K.b_set ?_ (by first | omega | (simp <;> omega)) _) | (with_reducible refine K.b_only ?_ (by assumption) (by first | omega | (simp <;> omega)))))).mono ?_); rintro e W1 ⟨rfl, hb1⟩; obtain ⟨hB1, hC1, hF1, hZ1⟩ := K.bel_facts hb1; clear hb1))
    go_ret2
    exact ⟨_, rfl, World.ownsRow_nil _ _ _ _, (by repeat (first | (with_reducible exact Below.refl _ _) | (with_reducible refine K.b_bel ?_ (by assumption)) | (with_reducible refine K.b_alloc ?_ _) | (with_reducible refine K.b_drewN ?_ _) | (with_reducible refine K.b_drew ?_) | (with_reducible refine K.b_set ?_ (by first | omega | (simp <;> omega)) _) | (with_reducible refine K.b_only ?_ (by assumption) (by first | omega | (simp <;> omega)))))⟩
end Go.Proofs.Ytkalbiihehcjkaa.Rg
