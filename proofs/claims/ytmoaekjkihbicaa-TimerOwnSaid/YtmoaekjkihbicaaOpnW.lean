/- What the bound on an argument's size says of the slices in it. -/
import Derived.Test.YtmoaekjkihbicaaOpnS
set_option linter.unusedVariables false
namespace Go.Proofs.Ytmoaekjkihbicaa.Opn
open Go.ChangeShapes Go.WideShapes Go.ChangeAt Go.RowKit
section
variable {H : Type} {enc : TypeId × Value → H} {P : Program} {w : World} {base : Nat} {spare : Nat → Bool} {held : Bool}
def Wt (P : Program) : Sk → Value → Prop
  | .slice e, .slice _ n _ => n * P.bytesOf e ≤ reachBytes
  | _, _ => True
def AllWt (P : Program) : List Sk → List Value → Prop
  | k :: ks, v :: vs => Wt P k v ∧ AllWt P ks vs
  | _, _ => True
theorem AllWt.append : ∀ {ks ls : List Sk} {vs us : List Value}, ks.length = vs.length → AllWt P ks vs → AllWt P ls us → AllWt P (ks ++ ls) (vs ++ us)
  | [], ls, [], us, _, _, h => h
  | k :: ks, ls, v :: vs, us, hl, h1, h2 => ⟨h1.1, AllWt.append (by simpa using hl) h1.2 h2⟩
  | [], _, _ :: _, _, hl, _, _ => by simp at hl
  | _ :: _, _, [], _, hl, _, _ => by simp at hl
theorem AllWt.at : ∀ {ks : List Sk} {vs : List Value} (j : Nat) {e : TypeId} {a : Option Addr} {n c : Nat}, AllWt P ks vs → ks[j]? = some (.slice e) → vs[j]? = some (.slice a n c) → n * P.bytesOf e ≤ reachBytes
  | [], _, j, _, _, _, _, _, h, _ => by simp at h
  | _ :: _, [], j, _, _, _, _, _, _, h => by simp at h
  | k :: ks, v :: vs, 0, e, a, n, c, h, h1, h2 => by
    simp only [List.getElem?_cons_zero, Option.some.injEq] at h1 h2
    subst h1; subst h2
    exact h.1
  | k :: ks, v :: vs, j + 1, e, a, n, c, h, h1, h2 => AllWt.at j h.2 (by simpa using h1) (by simpa using h2)
theorem fold_wt {m n : Nat} {cs : List Value} (ih : ∀ t cs x ks, DataW.trod enc P w base spare held n t cs = some x → flat P m t = some ks → (∀ k ∈ x.1.weights P t, k ≤ reachBytes) → AllWt P ks cs)
    (ihl : ∀ t cs x ks, DataW.trod enc P w base spare held n t cs = some x → flat P m t = some ks → ks.length = cs.length) :
    ∀ (fs : List Field) (l out : List Sk), (∀ f ∈ fs, ∃ x, DataW.trod enc P w base spare held n f.type ((cs.drop f.offset).take (P.cellsOf f.type)) = some x ∧ ∀ k ∈ x.1.weights P f.type, k ≤ reachBytes) →
      AllWt P l (cs.take l.length) → l.length ≤ cs.length → fs.foldl (step P m) (some l) = some out → AllWt P out (cs.take out.length) ∧ out.length ≤ cs.length
  | [], l, out, _, hl, hle, h => by
    simp only [List.foldl_nil, Option.some.injEq] at h
    subst h; exact ⟨hl, hle⟩
  | f :: fs, l, out, hf, hl, hle, h => by
    simp only [List.foldl_cons] at h
    cases hs : step P m (some l) f with
    | none => rw [hs, fold_none] at h; cases h
    | some l2 =>
      rw [hs] at h
      simp only [step, Option.bind_some] at hs
      cases hk : flat P m f.type with
      | none => rw [hk] at hs; cases hs
      | some ks =>
        rw [hk] at hs
        simp only [Option.bind_some] at hs
        split at hs
        · rename_i hc
          cases hs
          obtain ⟨x, hx, hw⟩ := hf f (List.mem_cons_self ..)
          have h1 := ih _ _ _ _ hx hk hw
          have h2 := ihl _ _ _ _ hx hk
          rw [hc.1, hc.2] at h1
          rw [hc.1, hc.2] at h2
          rw [List.length_take, List.length_drop] at h2
          refine fold_wt ih ihl fs (l ++ ks) out (fun g hg => hf g (List.mem_cons_of_mem _ hg)) ?_ ?_ h
          · rw [List.length_append, List.take_add]
            exact AllWt.append (by rw [List.length_take]; omega) hl h1
          · rw [List.length_append]; omega
        · cases hs
theorem trod_wt : ∀ (m n : Nat) (t : TypeId) (cs : List Value) (x : DataW H × List MemPlace) (ks : List Sk), DataW.trod enc P w base spare held n t cs = some x → flat P m t = some ks → (∀ k ∈ x.1.weights P t, k ≤ reachBytes) → AllWt P ks cs
  | 0, n, t, cs, x, ks, h, hk, hw => by cases hk
  | m + 1, n, t, cs, x, ks, h, hk, hw => by
    unfold flat at hk
    split at hk
    · rename_i k hu
      cases hk
      obtain ⟨z, rfl, _, _⟩ := DataW.trod_int hu h
      exact ⟨trivial, trivial⟩
    · rename_i hu
      cases hk
      obtain ⟨z, rfl, _⟩ := DataW.trod_bool hu h
      exact ⟨trivial, trivial⟩
    · rename_i hu
      cases hk
      obtain ⟨z, rfl, _, _⟩ := DataW.trod_string hu h
      exact ⟨trivial, trivial⟩
    · rename_i e hu
      cases hk
      rcases DataW.trod_slice hu h with ⟨rfl, _⟩ | ⟨a, len, cap, elems, rest, q, _, rfl, rfl, hb, hl, hm, hlen, hel, hsp, hns⟩
      · exact ⟨by show 0 * _ ≤ _; omega, trivial⟩
      · refine ⟨?_, trivial⟩
        have h1 := hw ((elems.length + rest.length) * P.bytesOf e) (by simp [DataW.weights, hu])
        show len * P.bytesOf e ≤ reachBytes
        exact Nat.le_trans (Nat.mul_le_mul_right _ (by omega)) h1
    · rename_i fs hu
      cases hf : fs.toList.foldl (fun (acc : Option (List Sk)) f => acc.bind fun l => (flat P m f.type).bind fun ks => if f.offset = l.length ∧ P.cellsOf f.type = ks.length then some (l ++ ks) else none) (some []) with
      | none => rw [show (fs.toList.foldl (fun (acc : Option (List Sk)) f => acc.bind fun l => (flat P m f.type).bind fun ks => if f.offset = l.length ∧ P.cellsOf f.type = ks.length then some (l ++ ks) else none) (some [])) = none from hf] at hk; cases hk
      | some l =>
        rw [show (fs.toList.foldl (fun (acc : Option (List Sk)) f => acc.bind fun l => (flat P m f.type).bind fun ks => if f.offset = l.length ∧ P.cellsOf f.type = ks.length then some (l ++ ks) else none) (some [])) = some l from hf] at hk
        simp only [Option.bind_some] at hk
        split at hk
        · rename_i hc
          have e := Option.some.inj hk
          subst e
          obtain ⟨xs, q, rfl, rfl, hlen, hxs, hel⟩ := DataW.trod_struct hu h
          have h1 := fold_wt (cs := cs) (n := q) (m := m) (fun t cs x ks => trod_wt m q t cs x ks) (fun t cs x ks hx hk => (trod_flat m q t cs x ks hx hk).length) fs.toList [] l (fun f hfm => by
            obtain ⟨i, hi⟩ := List.getElem?_of_mem hfm
            have h2 := hel i f (by simpa using hi)
            have h3 : i < xs.length := by
              have := (List.getElem?_eq_some_iff.1 hi).1
              rw [hxs]; simpa using this
            rw [List.getElem?_eq_getElem h3] at h2
            refine ⟨_, h2, fun k hkm => hw k ?_⟩
            simp only [DataW.weights, hu]
            exact DataW.weights_mem_each (j := i) (t := f.type) (d := xs[i].1) (by rw [List.getElem?_map, hi]; rfl) (by rw [List.getElem?_map, List.getElem?_eq_getElem h3]; rfl) k hkm) (by simp [AllWt]) (by simp) hf
          have h4 : cs.take l.length = cs := List.take_of_length_le (by rw [hlen, hc]; exact Nat.le_refl _)
          rw [h4] at h1
          exact h1.1
        · cases hk
    · cases hk
theorem opened_wt {m : Nat} {t : TypeId} {v : Value} {d : DataW H} {ps : List MemPlace} {ks : List Sk} (h : DataW.Trod enc P w base spare held t v d ps) (hk : flat P m t = some ks) (hw : ∀ k ∈ d.weights P t, k ≤ reachBytes) : AllWt P ks v.cells.toList := by
  obtain ⟨n, hn⟩ := h
  exact trod_wt m n t _ _ ks hn hk hw
/-- The bound, of one argument. -/
theorem sized_arg {ts : List TypeId} {ds : List (DataW H)} (h : (DataW.weightsEach P ts ds).all (· ≤ reachBytes) = true) (j : Nat) {t : TypeId} {d : DataW H} (ht : ts[j]? = some t) (hd : ds[j]? = some d) : ∀ k ∈ d.weights P t, k ≤ reachBytes := fun k hk => by
  simpa using List.all_eq_true.1 h k (DataW.weights_mem_each ht hd k hk)
end
end Go.Proofs.Ytmoaekjkihbicaa.Opn
