/- An argument that reads as data, laid open: the cells of a value of whole numbers, bools, and slices of such. -/
import Derived.Test.YtmoaekjkihbicaaK
import Derived.OpenShut
import Derived.ChangeOld
import Derived.ProofKit
import Derived.SizedLaws
import Derived.WideShapes
set_option linter.unusedVariables false
namespace Go.Proofs.Ytmoaekjkihbicaa.Opn
open Go.ChangeShapes Go.WideShapes Go.ChangeAt Go.RowKit
inductive Sk where
  | int (k : IntKind)
  | bool
  | string
  | slice (e : TypeId)
/-- The kinds of a type's cells, in order. -/
def flat (P : Program) : Nat → TypeId → Option (List Sk)
  | 0, _ => none
  | m + 1, t =>
    match P.underlying t with
    | some (.int k) => some [.int k]
    | some .bool => some [.bool]
    | some .string => some [.string]
    | some (.slice e) => some [.slice e]
    | some (.struct fs) => (fs.toList.foldl (fun (acc : Option (List Sk)) f => acc.bind fun l => (flat P m f.type).bind fun ks => if f.offset = l.length ∧ P.cellsOf f.type = ks.length then some (l ++ ks) else none) (some [])).bind fun l => if P.cellsOf t = l.length then some l else none
    | _ => none
section
variable {H : Type} (enc : TypeId × Value → H) (P : Program) (w : World) (base : Nat) (spare : Nat → Bool) (held : Bool)
/-- What is known of one cell. -/
def Ok : Sk → Value → Prop
  | .int k, v => ∃ n, v = .int k n ∧ (Lit.int k n).wf = true
  | .bool, v => ∃ b, v = .bool b
  | .string, v => ∃ s : ByteArray, v = .string s ∧ s.size ≤ maxLen
  | .slice e, v => v = .slice none 0 0 ∨ ∃ a len cap, v = .slice (some a) len cap ∧ base ≤ a.block ∧ len ≤ cap ∧ cap ≤ maxLen ∧
      ∃ n, ∀ i, i < (if spare a.block then cap else len) → ∃ cs x, w.cells? base (a.add (i * P.cellsOf e)) (P.cellsOf e) = some cs ∧ DataW.trod enc P w base spare held n e cs = some x
def AllOk : List Sk → List Value → Prop
  | [], [] => True
  | k :: ks, v :: vs => Ok enc P w base spare held k v ∧ AllOk ks vs
  | _, _ => False
variable {enc P w base spare held}
theorem AllOk.append : ∀ {ks ls : List Sk} {vs us : List Value}, AllOk enc P w base spare held ks vs → AllOk enc P w base spare held ls us → AllOk enc P w base spare held (ks ++ ls) (vs ++ us)
  | [], ls, [], us, _, h => h
  | k :: ks, ls, v :: vs, us, h1, h2 => ⟨h1.1, AllOk.append h1.2 h2⟩
  | [], _, _ :: _, _, h, _ => h.elim
  | _ :: _, _, [], _, h, _ => h.elim
theorem AllOk.length : ∀ {ks : List Sk} {vs : List Value}, AllOk enc P w base spare held ks vs → ks.length = vs.length
  | [], [], _ => rfl
  | k :: ks, v :: vs, h => by simp [AllOk.length h.2]
  | [], _ :: _, h => h.elim
  | _ :: _, [], h => h.elim
def step (P : Program) (m : Nat) (acc : Option (List Sk)) (f : Field) : Option (List Sk) := acc.bind fun l => (flat P m f.type).bind fun ks => if f.offset = l.length ∧ P.cellsOf f.type = ks.length then some (l ++ ks) else none
theorem fold_none (P : Program) (m : Nat) : ∀ fs : List Field, fs.foldl (step P m) none = none
  | [] => rfl
  | f :: fs => fold_none P m fs
theorem fold_ok {m n : Nat} {cs : List Value} (ih : ∀ t cs x ks, DataW.trod enc P w base spare held n t cs = some x → flat P m t = some ks → AllOk enc P w base spare held ks cs) :
    ∀ (fs : List Field) (l out : List Sk), (∀ f ∈ fs, ∃ x, DataW.trod enc P w base spare held n f.type ((cs.drop f.offset).take (P.cellsOf f.type)) = some x) →
      AllOk enc P w base spare held l (cs.take l.length) → l.length ≤ cs.length → fs.foldl (step P m) (some l) = some out → AllOk enc P w base spare held out (cs.take out.length) ∧ out.length ≤ cs.length
  | [], l, out, _, hl, hle, h => by
    simp only [List.foldl_nil, Option.some.injEq] at h
    subst h; exact ⟨hl, hle⟩
  | f :: fs, l, out, hf, hl, hle, h => by
    simp only [List.foldl_cons] at h
    cases hs : step P m (some l) f with
    | none => rw [hs, fold_none] at h; cases h
    | some l2 =>
      rw [hs] at h
      simp only [step, Option.bind_some] at hs
      cases hk : flat P m f.type with
      | none => rw [hk] at hs; cases hs
      | some ks =>
        rw [hk] at hs
        simp only [Option.bind_some] at hs
        split at hs
        · rename_i hc
          cases hs
          obtain ⟨x, hx⟩ := hf f (List.mem_cons_self ..)
          have h1 := ih _ _ _ _ hx hk
          rw [hc.1, hc.2] at h1
          have h2 := h1.length
          rw [List.length_take, List.length_drop] at h2
          refine fold_ok ih fs (l ++ ks) out (fun g hg => hf g (List.mem_cons_of_mem _ hg)) ?_ ?_ h
          · rw [List.length_append, List.take_add]
            exact hl.append h1
          · rw [List.length_append]; omega
        · cases hs
theorem trod_flat : ∀ (m n : Nat) (t : TypeId) (cs : List Value) (x : DataW H × List MemPlace) (ks : List Sk), DataW.trod enc P w base spare held n t cs = some x → flat P m t = some ks → AllOk enc P w base spare held ks cs
  | 0, n, t, cs, x, ks, h, hk => by cases hk
  | m + 1, n, t, cs, x, ks, h, hk => by
    unfold flat at hk
    split at hk
    · rename_i k hu
      cases hk
      obtain ⟨z, rfl, _, hw⟩ := DataW.trod_int hu h
      exact ⟨⟨z, rfl, hw⟩, trivial⟩
    · rename_i hu
      cases hk
      obtain ⟨z, rfl, _⟩ := DataW.trod_bool hu h
      exact ⟨⟨z, rfl⟩, trivial⟩
    · rename_i hu
      cases hk
      obtain ⟨z, rfl, _, hw⟩ := DataW.trod_string hu h
      exact ⟨⟨z, rfl, hw⟩, trivial⟩
    · rename_i e hu
      cases hk
      rcases DataW.trod_slice hu h with ⟨rfl, _⟩ | ⟨a, len, cap, elems, rest, q, _, rfl, _, hb, hl, hm, hlen, hel, hsp, hns⟩
      · exact ⟨.inl rfl, trivial⟩
      · refine ⟨.inr ⟨a, len, cap, rfl, hb, hl, hm, q, fun i hi => ?_⟩, trivial⟩
        by_cases hi2 : i < len
        · have h1 := hel i hi2
          rw [List.getElem?_eq_getElem (by omega), Option.bind_eq_some_iff] at h1
          obtain ⟨cs, h2, h3⟩ := h1
          exact ⟨cs, _, h2, h3⟩
        · cases hs : spare a.block with
          | false => rw [hs] at hi; simp at hi; omega
          | true =>
            rw [hs] at hi; simp at hi
            obtain ⟨hr, hj⟩ := hsp hs
            have h1 := hj (i - len) (by omega)
            rw [show len + (i - len) = i from by omega, List.getElem?_eq_getElem (by omega), Option.bind_eq_some_iff] at h1
            obtain ⟨cs, h2, h3⟩ := h1
            exact ⟨cs, _, h2, h3⟩
    · rename_i fs hu
      cases hf : fs.toList.foldl (step P m) (some []) with
      | none => rw [show (fs.toList.foldl (fun (acc : Option (List Sk)) f => acc.bind fun l => (flat P m f.type).bind fun ks => if f.offset = l.length ∧ P.cellsOf f.type = ks.length then some (l ++ ks) else none) (some [])) = none from hf] at hk; cases hk
      | some l =>
        rw [show (fs.toList.foldl (fun (acc : Option (List Sk)) f => acc.bind fun l => (flat P m f.type).bind fun ks => if f.offset = l.length ∧ P.cellsOf f.type = ks.length then some (l ++ ks) else none) (some [])) = some l from hf] at hk
        simp only [Option.bind_some] at hk
        split at hk
        · rename_i hc
          have e := Option.some.inj hk
          subst e
          obtain ⟨xs, q, rfl, _, hlen, hxs, hel⟩ := DataW.trod_struct hu h
          have h1 := fold_ok (cs := cs) (n := q) (m := m) (fun t cs x ks => trod_flat m q t cs x ks) fs.toList [] l (fun f hfm => by
            obtain ⟨i, hi⟩ := List.getElem?_of_mem hfm
            have h2 := hel i f (by simpa using hi)
            have h3 : i < xs.length := by
              have := (List.getElem?_eq_some_iff.1 hi).1
              rw [hxs]; simpa using this
            rw [List.getElem?_eq_getElem h3] at h2
            exact ⟨_, h2⟩) (by simp [AllOk]) (by simp) hf
          have h4 : cs.take l.length = cs := List.take_of_length_le (by rw [hlen, hc]; exact Nat.le_refl _)
          rw [h4] at h1
          exact h1.1
        · cases hk
    · cases hk
theorem opened {m : Nat} {t : TypeId} {v : Value} {d : DataW H} {ps : List MemPlace} {ks : List Sk} (h : DataW.Trod enc P w base spare held t v d ps) (hk : flat P m t = some ks) : AllOk enc P w base spare held ks v.cells.toList := by
  obtain ⟨n, hn⟩ := h
  exact trod_flat m n t _ _ ks hn hk
theorem ok_cons {k : Sk} {ks : List Sk} {vs : List Value} (h : AllOk enc P w base spare held (k :: ks) vs) : ∃ v us, vs = v :: us ∧ Ok enc P w base spare held k v ∧ AllOk enc P w base spare held ks us := by
  cases vs with
  | nil => exact h.elim
  | cons v us => exact ⟨v, us, rfl, h⟩
theorem ok_nil {vs : List Value} (h : AllOk enc P w base spare held [] vs) : vs = [] := by
  cases vs with
  | nil => rfl
  | cons v us => exact h.elim
/-- A struct as an argument. -/
theorem agg_of {r : Reach} {b0 : Nat} {t : TypeId} {v : Value} {fs : Array Field} (ht : P.underlying t = some (.struct fs)) (hval : Value.okWide P w r b0 t v) : ∃ cs : Array Value, v = .agg cs := by
  unfold Value.okWide at hval
  rw [ht] at hval
  obtain ⟨cs, rfl, _⟩ := hval
  exact ⟨cs, rfl⟩
end
end Go.Proofs.Ytmoaekjkihbicaa.Opn
