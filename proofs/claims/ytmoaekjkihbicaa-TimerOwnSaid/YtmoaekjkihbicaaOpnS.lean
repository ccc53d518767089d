/- Slices that read as data, laid open. -/
import Derived.Test.YtmoaekjkihbicaaOpn
import Derived.Test.YtmoaekjkihbicaaSl
set_option linter.unusedVariables false
namespace Go.Proofs.Ytmoaekjkihbicaa.Opn
open Go.ChangeShapes Go.WideShapes Go.ChangeAt Go.RowKit
theorem list_of {α : Type} {Q : Nat → α → Prop} : ∀ n, (∀ i, i < n → ∃ x, Q i x) → ∃ xs : List α, xs.length = n ∧ ∀ i x, xs[i]? = some x → Q i x
  | 0, _ => ⟨[], rfl, fun i x h => by simp at h⟩
  | n + 1, h => by
    obtain ⟨xs, hl, hq⟩ := list_of n (fun i hi => h i (by omega))
    obtain ⟨y, hy⟩ := h n (by omega)
    refine ⟨xs ++ [y], by simp [hl], fun i x hx => ?_⟩
    by_cases hi : i < xs.length
    · rw [List.getElem?_append_left hi] at hx
      exact hq i x hx
    · rw [List.getElem?_append_right (by omega)] at hx
      have h0 : i - xs.length = 0 := by
        have := (List.getElem?_eq_some_iff.1 hx).1
        simpa using this
      rw [h0] at hx
      simp at hx
      subst hx
      rw [show i = n from by omega]
      exact hy
theorem add_none (b off k : Nat) : (⟨b, off, none⟩ : Addr).add k = ⟨b, off + k, none⟩ := by unfold Addr.add; split <;> simp_all
section
variable {H : Type} {enc : TypeId × Value → H} {P : Program} {w : World} {base : Nat} {spare : Nat → Bool} {held : Bool}
theorem ok_slice {e : TypeId} {v : Value} (h : Ok enc P w base spare held (.slice e) v) : ∃ a n c, v = .slice a n c := by
  rcases h with rfl | ⟨a, len, cap, rfl, _⟩
  · exact ⟨_, _, _, rfl⟩
  · exact ⟨_, _, _, rfl⟩
theorem slice_of {α : Type} {el : α → List Value} {wf : α → Prop} {sz m : Nat} {e : TypeId} {ks : List Sk} {a : Option Addr} {n c : Nat} (hk : flat P m e = some ks) (hsz : P.cellsOf e = sz) (hpos : 0 < sz)
    (hE : ∀ cs, AllOk enc P w base spare held ks cs → ∃ x : α, cs = el x ∧ wf x) (he : ∀ x, (el x).length = sz) (h : Ok enc P w base spare held (.slice e) (.slice a n c)) :
    ∃ xs : List α, Sl.Rds w sz a n (xs.flatMap el) ∧ ∀ x ∈ xs, wf x := by
  subst hsz
  rcases h with h | ⟨ad, len, cap, h, hb, hl, hm, q, hq⟩
  · injection h with h1 h2 h3
    subst h1; subst h2
    exact ⟨[], Sl.Rds.nil _ _ _, by simp⟩
  · injection h with h1 h2 h3
    subst h1; subst h2; subst h3
    obtain ⟨xs, hxl, hx⟩ := list_of (Q := fun i (x : α) => w.cells? base (ad.add (i * P.cellsOf e)) (P.cellsOf e) = some (el x) ∧ wf x) n (fun i hi => by
      obtain ⟨cs, y, h1, h2⟩ := hq i (by split <;> omega)
      obtain ⟨x, rfl, hw⟩ := hE cs (trod_flat m q e cs y ks h2 hk)
      exact ⟨x, h1, hw⟩)
    refine ⟨xs, ⟨by rw [Sl.flat_len he, hxl], by omega, fun hn => ?_⟩, fun x hxm => ?_⟩
    · obtain ⟨x0, hx0⟩ : ∃ x, xs[0]? = some x := ⟨_, List.getElem?_eq_getElem (by omega)⟩
      have h0 := (World.cells?_some (hx 0 x0 hx0).1).2.2 0 hpos
      have hc0 : w.cell? ((ad.add (0 * P.cellsOf e)).add 0) = some ((el x0)[0]'(by rw [he]; exact hpos)) := by rw [h0]; exact List.getElem?_eq_getElem _
      obtain ⟨b, off, sp⟩ := ad
      have hsp : sp = none := by
        cases sp with
        | none => rfl
        | some s =>
          exfalso
          unfold World.cell? Addr.add at hc0
          simp at hc0
          split at hc0 <;> simp_all
      subst hsp
      refine ⟨b, off, rfl, ?_, fun j hj => ?_⟩
      · have := World.block_lt_of_cell? w _ hc0
        rw [add_none, add_none] at this
        exact this
      · rw [Sl.flat_len he] at hj
        have hd : j / P.cellsOf e < xs.length := Nat.div_lt_of_lt_mul (by rw [Nat.mul_comm]; exact hj)
        have hmod : j % P.cellsOf e < P.cellsOf e := Nat.mod_lt _ hpos
        obtain ⟨x, hxx⟩ : ∃ x, xs[j / P.cellsOf e]? = some x := ⟨_, List.getElem?_eq_getElem hd⟩
        have h1 := (World.cells?_some (hx _ x hxx).1).2.2 _ hmod
        rw [add_none, add_none] at h1
        have h2 := Sl.flat_get he xs _ _ x hxx hmod
        have h3 : j / P.cellsOf e * P.cellsOf e + j % P.cellsOf e = j := by rw [Nat.mul_comm]; exact Nat.div_add_mod _ _
        rw [h3] at h2
        rw [h2, ← h1, Nat.add_assoc, h3]
    · obtain ⟨i, hi⟩ := List.getElem?_of_mem hxm
      exact (hx i x hi).2
end
end Go.Proofs.Ytmoaekjkihbicaa.Opn
