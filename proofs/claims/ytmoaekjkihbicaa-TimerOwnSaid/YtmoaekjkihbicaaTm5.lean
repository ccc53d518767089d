/- Timer: the exchange of two timers of a row of one's own. -/
import Derived.Test.YtmoaekjkihbicaaTm4
import Derived.Deep.MidRow
set_option linter.unusedVariables false
namespace Go.Proofs.Ytmoaekjkihbicaa.Tm
open Go.RowKit Go.Proofs.Ytmoaekjkihbicaa
set_option linter.unusedSimpArgs false
theorem flat_set : ∀ (L : List Tm) (k : Nat) (x : Tm), ((L.flatMap Tm.cs).set (k * 2) (.int .i64 x.t)).set (k * 2 + 1) (.int .i64 x.id) = (L.set k x).flatMap Tm.cs
  | [], k, x => rfl
  | y :: r, 0, x => by simp [Tm.cs, List.flatMap_cons]
  | y :: r, k + 1, x => by
    have ih := flat_set r k x
    rw [List.set_cons_succ, List.flatMap_cons, List.flatMap_cons, ← ih, show (k + 1) * 2 = k * 2 + 1 + 1 by omega]
    simp [Tm.cs]
theorem own_put {w : World} {base g n cap k : Nat} {e : TypeId} {L : List Tm} (z : Tm) (hown : w.ownsRow base e 2 (.slice (some ⟨g, 0, none⟩) n cap) n (L.flatMap Tm.cs)) :
    (w.setCells g (k * 2) [.int .i64 z.t, .int .i64 z.id]).ownsRow base e 2 (.slice (some ⟨g, 0, none⟩) n cap) n ((L.set k z).flatMap Tm.cs) := by
  have h1 := (hown.stored (k * 2) (.int .i64 z.t)).1
  have h2 := (h1.stored (k * 2 + 1) (.int .i64 z.id)).1
  rw [flat_set] at h2
  exact h2
theorem own_there {w : World} {base g n cap k : Nat} {e : TypeId} {L : List Tm} (hown : w.ownsRow base e 2 (.slice (some ⟨g, 0, none⟩) n cap) n (L.flatMap Tm.cs)) (hk : k < n) : w.there g (k * 2) 2 := by
  intro j hj
  have hl := hown.1
  exact ⟨by rw [hown.cellAt (k * 2 + j) (by omega), List.getElem?_eq_getElem (by omega)]; rfl, hown.frozenAt (k * 2 + j)⟩
theorem run_st {w : World} {base g n cap k : Nat} {e : TypeId} {L : List Tm} (z : Tm) (hown : w.ownsRow base e 2 (.slice (some ⟨g, 0, none⟩) n cap) n (L.flatMap Tm.cs)) (hk : k < n) :
    (storeVar 25 ⟨g, k * 2, none⟩ (.agg #[.int .i64 z.t, .int .i64 z.id])).run Try.prog w = .ok () (w.setCells g (k * 2) [.int .i64 z.t, .int .i64 z.id]) :=
  run_storeVar_mid w g (k * 2) 25 #[.int .i64 z.t, .int .i64 z.id] (own_there hown hk) (by kernel_rfl) (by simp [Value.oneCell'])
set_option maxRecDepth 100000 in
set_option maxHeartbeats 4000000 in
theorem swap_c (L : List Tm) (i j : Nat) (x y : Tm) (g n cap base : Nat) (w : World) (hown : w.ownsRow base 25 2 (.slice (some ⟨g, 0, none⟩) n cap) n (L.flatMap Tm.cs)) (hx : L[i]? = some x) (hy : L[j]? = some y) (hij : i ≠ j) (hn : n ≤ 2048) :
    Calls Try.prog 43 #[.slice (some ⟨g, 0, none⟩) n cap, .int .i64 i, .int .i64 j] w fun e w' => e = .returned (.tuple #[]) ∧ w'.ownsRow base 25 2 (.slice (some ⟨g, 0, none⟩) n cap) n (((L.set i y).set j x).flatMap Tm.cs) ∧ w.grownBy w' (some g) := by
  have hl : L.length = n := by have := hown.1; rw [Sl.flat_len Tm.cs_len] at this; omega
  have h1 := (List.getElem?_eq_some_iff.1 hx).1
  have h2 := (List.getElem?_eq_some_iff.1 hy).1
  have hi1 : (i : Int) < (n : Int) := by omega
  have hi0 : (0 : Int) ≤ (i : Int) := by omega
  have hj1 : (j : Int) < (n : Int) := by omega
  have hj0 : (0 : Int) ≤ (j : Int) := by omega
  have hc0 : w.cell? ⟨g, i * 2, none⟩ = some (.int .i64 x.t) := by
    rw [hown.cellAt _ (by omega)]; have := Sl.flat_get Tm.cs_len L i 0 x hx (by omega); simpa [Tm.cs] using this
  have hc1 : w.cell? ⟨g, i * 2 + 1, none⟩ = some (.int .i64 x.id) := by
    rw [hown.cellAt _ (by omega)]; have := Sl.flat_get Tm.cs_len L i 1 x hx (by omega); simpa [Tm.cs] using this
  have hc2 : w.cell? ⟨g, j * 2, none⟩ = some (.int .i64 y.t) := by
    rw [hown.cellAt _ (by omega)]; have := Sl.flat_get Tm.cs_len L j 0 y hy (by omega); simpa [Tm.cs] using this
  have hc3 : w.cell? ⟨g, j * 2 + 1, none⟩ = some (.int .i64 y.id) := by
    rw [hown.cellAt _ (by omega)]; have := Sl.flat_get Tm.cs_len L j 1 y hy (by omega); simpa [Tm.cs] using this
  have hgl : g < w.heap.size := (hown.lt g rfl).2
  have e1 : i * 2 ≠ j * 2 := by omega
  have e2 : i * 2 ≠ j * 2 + 1 := by omega
  have e3 : i * 2 + 1 ≠ j * 2 := by omega
  have e4 : i * 2 + 1 ≠ j * 2 + 1 := by omega
  have e5 : j * 2 ≠ i * 2 := by omega
  have e6 : j * 2 ≠ i * 2 + 1 := by omega
  have e7 : j * 2 + 1 ≠ i * 2 := by omega
  have e8 : j * 2 + 1 ≠ i * 2 + 1 := by omega
  have hf0 := hown.frozenAt (i * 2)
  have hf1 := hown.frozenAt (i * 2 + 1)
  have hf2 := hown.frozenAt (j * 2)
  have hf3 := hown.frozenAt (j * 2 + 1)
  have hown1 : w.drew.ownsRow base 25 2 (.slice (some ⟨g, 0, none⟩) n cap) n (L.flatMap Tm.cs) := hown
  have hown2 := own_put (k := i) y hown1
  have hown3 := own_put (k := j) x hown2
  have HO := K.H.mk hown3
  clear hown hown1 hown2 hown3 hx hy h1 h2
  go_enter Try.func43, Try.ntmps43
  go_wp2
  go_region
  go_end0
  exact ⟨rfl, HO.out, (by repeat (first | (with_reducible exact K.o_refl _ _) | (with_reducible refine K.o_only ?_ (by assumption)) | (with_reducible refine K.o_bel ?_ (by assumption)) | (with_reducible refine K.o_alloc ?_ _) | (with_reducible refine K.o_drewN ?_ _) | (with_reducible refine K.o_drew ?_) | (with_reducible refine K.o_set ?_ _ _)))⟩
end Go.Proofs.Ytmoaekjkihbicaa.Tm
