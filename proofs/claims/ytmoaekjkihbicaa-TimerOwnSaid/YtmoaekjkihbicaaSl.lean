/- Slices whose elements take some cells each: how they read. -/
import Derived.Test.YtmoaekjkihbicaaK
set_option linter.unusedVariables false
namespace Go.Proofs.Ytmoaekjkihbicaa.Sl
open Go.RowKit Go.Proofs.Ytmoaekjkihbicaa
/-- The slice at A, n elements of sz cells each, holds these cells. -/
structure Rds (w : World) (sz : Nat) (A : Option Addr) (n : Nat) (cs : List Value) : Prop where
  len : cs.length = n * sz
  small : n ≤ maxLen
  at_ : 0 < n → ∃ b off, A = some ⟨b, off, none⟩ ∧ b < w.heap.size ∧ ∀ j, j < cs.length → w.cell? ⟨b, off + j, none⟩ = cs[j]?
theorem Rds.nil (w : World) (sz : Nat) (A : Option Addr) : Rds w sz A 0 [] := ⟨by simp, by simp [maxLen], fun h => by omega⟩
theorem Rds.below {w W : World} {sz n : Nat} {A : Option Addr} {cs : List Value} (h : Rds w sz A n cs) (hb : Below w.heap.size w W) : Rds W sz A n cs :=
  ⟨h.len, h.small, fun hn => by
    obtain ⟨b, off, e, hl, hc⟩ := h.at_ hn
    exact ⟨b, off, e, Nat.lt_of_lt_of_le hl hb.size, fun j hj => (hb.cell (p := ⟨b, off + j, none⟩) hl).trans (hc j hj)⟩⟩
theorem Rds.bel {w W : World} {sz n : Nat} {A : Option Addr} {cs : List Value} (h : Rds w sz A n cs) (hb : K.Bel w W) : Rds W sz A n cs := h.below hb.out
section
variable {α : Type} {enc : α → List Value} {sz : Nat}
theorem flat_len (he : ∀ x, (enc x).length = sz) : ∀ xs : List α, (xs.flatMap enc).length = xs.length * sz
  | [] => by simp
  | x :: xs => by simp [flat_len he xs, he, Nat.add_mul, Nat.add_comm]
theorem flat_get (he : ∀ x, (enc x).length = sz) : ∀ (xs : List α) (k j : Nat) (x : α), xs[k]? = some x → j < sz → (xs.flatMap enc)[k * sz + j]? = (enc x)[j]?
  | [], k, j, x, h, hj => by simp at h
  | y :: ys, 0, j, x, h, hj => by
    simp only [List.getElem?_cons_zero, Option.some.injEq] at h
    subst h
    rw [List.flatMap_cons, List.getElem?_append_left (by rw [he]; omega)]
    simp
  | y :: ys, k + 1, j, x, h, hj => by
    rw [List.getElem?_cons_succ] at h
    rw [List.flatMap_cons, List.getElem?_append_right (by rw [he, Nat.add_mul]; omega), he, show (k + 1) * sz + j - sz = k * sz + j from by rw [Nat.add_mul]; omega]
    exact flat_get he ys k j x h hj
/-- An element's cells. -/
theorem Rds.elem {w : World} {A : Option Addr} {n : Nat} {xs : List α} (h : Rds w sz A n (xs.flatMap enc)) (he : ∀ x, (enc x).length = sz) (hs : 0 < sz) {k : Nat} {x : α} (hk : xs[k]? = some x) :
    ∃ b off, A = some ⟨b, off, none⟩ ∧ b < w.heap.size ∧ ∀ j, j < sz → w.cell? ⟨b, off + k * sz + j, none⟩ = (enc x)[j]? := by
  have h1 := h.len
  rw [flat_len he] at h1
  have hkl := (List.getElem?_eq_some_iff.1 hk).1
  have hn : xs.length = n := Nat.eq_of_mul_eq_mul_right hs h1
  obtain ⟨b, off, e, hl, hc⟩ := h.at_ (by omega)
  refine ⟨b, off, e, hl, fun j hj => ?_⟩
  have h2 : k * sz + j < (xs.flatMap enc).length := by
    rw [flat_len he]
    have h3 : (k + 1) * sz ≤ xs.length * sz := Nat.mul_le_mul_right _ (by omega)
    rw [Nat.add_mul] at h3; omega
  rw [Nat.add_assoc, hc _ h2, flat_get he xs k j x hk hj]
theorem Rds.length {w : World} {A : Option Addr} {n : Nat} {xs : List α} (h : Rds w sz A n (xs.flatMap enc)) (he : ∀ x, (enc x).length = sz) (hs : 0 < sz) : xs.length = n := by
  have h1 := h.len
  rw [flat_len he] at h1
  exact Nat.eq_of_mul_eq_mul_right hs h1
end
theorem Rds.le {w : World} {sz n : Nat} {A : Option Addr} {cs : List Value} (h : Rds w sz A n cs) : n ≤ 9223372036854775807 := by
  have := h.small
  unfold maxLen at this
  exact this
/-- The first place at which a test holds. -/
def idx {α : Type} (p : α → Bool) : List α → Int
  | [] => -1
  | x :: xs => if p x then 0 else (if idx p xs < 0 then -1 else idx p xs + 1)
theorem idx_ge {α : Type} (p : α → Bool) : ∀ xs : List α, -1 ≤ idx p xs
  | [] => by simp [idx]
  | x :: xs => by
    have := idx_ge p xs
    unfold idx
    split
    · omega
    · split <;> omega
theorem idx_found {α : Type} {p : α → Bool} : ∀ {xs : List α} {k : Nat} {x : α}, xs[k]? = some x → p x = true → (∀ j y, j < k → xs[j]? = some y → p y = false) → idx p xs = k
  | [], k, x, h, _, _ => by simp at h
  | y :: ys, 0, x, h, hp, _ => by
    simp only [List.getElem?_cons_zero, Option.some.injEq] at h
    subst h
    simp [idx, hp]
  | y :: ys, k + 1, x, h, hp, hf => by
    have h0 := hf 0 y (by omega) (by simp)
    have h1 := idx_found (xs := ys) (k := k) (by simpa using h) hp (fun j z hj hz => hf (j + 1) z (by omega) (by simpa using hz))
    unfold idx
    rw [if_neg (by simp [h0]), h1, if_neg (by omega)]
    push_cast; rfl
theorem idx_none {α : Type} {p : α → Bool} : ∀ {xs : List α}, (∀ j y, j < xs.length → xs[j]? = some y → p y = false) → idx p xs = -1
  | [], _ => rfl
  | y :: ys, hf => by
    have h0 := hf 0 y (by simp) (by simp)
    have h1 := idx_none (xs := ys) (fun j z hj hz => hf (j + 1) z (by simp; omega) (by simpa using hz))
    unfold idx
    rw [if_neg (by simp [h0]), h1, if_pos (by omega)]
/-- Does a test hold of one of them? -/
def anyOf {α : Type} (p : α → Bool) (xs : List α) : Bool := xs.any p
theorem anyOf_false {α : Type} {p : α → Bool} {xs : List α} (h : anyOf p xs = false) : ∀ x ∈ xs, p x = false := by
  intro x hx
  cases hp : p x
  · rfl
  · unfold anyOf at h
    rw [List.any_eq_false] at h
    exact absurd hp (h x hx)
theorem anyOf_true {α : Type} {p : α → Bool} {xs : List α} (h : anyOf p xs = true) : ∃ x, x ∈ xs ∧ p x = true := by
  unfold anyOf at h
  simpa using h
theorem idx_any {α : Type} (p : α → Bool) : ∀ xs : List α, decide (0 ≤ idx p xs) = anyOf p xs
  | [] => by simp [idx, anyOf]
  | x :: xs => by
    have := idx_any p xs
    have h2 := idx_ge p xs
    unfold anyOf at *
    unfold idx
    cases hp : p x
    · simp only [Bool.false_eq_true, if_false, List.any_cons, hp, Bool.false_or]
      rw [← this]
      split
      · rename_i h; simp; omega
      · rename_i h; simp; omega
    · simp [hp]
/-- What is owned reads. -/
theorem Rds.of_own {w : World} {base n sz : Nat} {e : TypeId} {v : Value} {cs : List Value} (h : w.ownsRow base e sz v n cs) : ∃ A c, v = .slice A n c ∧ Rds w sz A n cs := by
  obtain ⟨h1, h2⟩ := h
  rcases h2 with ⟨rfl, rfl⟩ | ⟨g, cap, cur, rfl, hb, hg, hn, hm, hcs, ht⟩
  · refine ⟨none, 0, rfl, ?_⟩
    obtain rfl : cs = [] := List.eq_nil_of_length_eq_zero (by simpa using h1)
    exact Rds.nil _ _ _
  · refine ⟨_, cap, rfl, h1, by omega, fun hn0 => ⟨g, 0, rfl, (Array.getElem?_eq_some_iff.1 hg).1, fun j hj => ?_⟩⟩
    rw [cell_of_row w g _ cur e (0, 0) hg, Nat.zero_add]
    rw [← ht, List.getElem?_take, if_pos (by omega)]
    simp
/-- The same, with room. -/
theorem Rds.of_own2 {w : World} {base n sz : Nat} {e : TypeId} {v : Value} {cs : List Value} (h : w.ownsRow base e sz v n cs) : ∃ A c, v = .slice A n c ∧ n ≤ c ∧ c ≤ maxLen ∧ Rds w sz A n cs := by
  obtain ⟨h1, h2⟩ := h
  rcases h2 with ⟨rfl, rfl⟩ | ⟨g, cap, cur, rfl, hb, hg, hn, hm, hcs, ht⟩
  · refine ⟨none, 0, rfl, by omega, by simp [maxLen], ?_⟩
    obtain rfl : cs = [] := List.eq_nil_of_length_eq_zero (by simpa using h1)
    exact Rds.nil _ _ _
  · refine ⟨_, cap, rfl, by omega, by omega, h1, by omega, fun hn0 => ⟨g, 0, rfl, (Array.getElem?_eq_some_iff.1 hg).1, fun j hj => ?_⟩⟩
    rw [cell_of_row w g _ cur e (0, 0) hg, Nat.zero_add]
    rw [← ht, List.getElem?_take, if_pos (by omega)]
    simp
/-- A row's beginning. -/
theorem Rds.take {w : World} {n : Nat} {A : Option Addr} {cs : List Value} (h : Rds w 1 A n cs) {k : Nat} (hk : k ≤ n) : Rds w 1 A k (cs.take k) := by
  have hl := h.len
  have hs := h.small
  refine ⟨by simp; omega, by omega, fun h0 => ?_⟩
  obtain ⟨b, off, e, hb, hc⟩ := h.at_ (by omega)
  refine ⟨b, off, e, hb, fun j hj => ?_⟩
  rw [List.length_take] at hj
  rw [hc j (by omega), List.getElem?_take, if_pos (by omega)]
theorem map_flat {α : Type} (f : α → Value) (l : List α) : l.map f = l.flatMap (fun n => [f n]) := by
  induction l with
  | nil => rfl
  | cons a l ih => simp [List.flatMap_cons, ih]
theorem new_cells (w : World) (T : TypeId) (cs : Array Value) (g : Nat) (hg : g = w.heap.size) : ∀ j u, cs.toList[j]? = some u → (w.alloc (.cells cs T)).cell? ⟨g, j, none⟩ = some u := by
  intro j u hj
  rw [(K.At.new' w T cs g hg).cell]
  simpa using hj
/-! ### A row that the call owns -/
section
variable {w W W2 : World} {base n sz : Nat} {e : TypeId} {v : Value} {cs : List Value}
theorem own_over (h : W.ownsRow base e sz v n cs) (k : K.Bel W W2) : W2.ownsRow base e sz v n cs :=
  h.kept (row := none) ⟨k.out.os, k.out.tape, k.out.output, k.out.size, fun i hi _ => k.out.block i hi⟩ (by cases v.ownBlock <;> simp)
theorem own_past {g : Nat} (h : W.ownsRow base e sz v n cs) (k : K.Only W W2 g) (hn : v.ownBlock ≠ some g) : W2.ownsRow base e sz v n cs := h.kept k.out (.inr hn)
theorem own_ne {g : Nat} {T : TypeId} {ds : Array Value} (h : W.ownsRow base e sz v n cs) (ha : K.At W g T ds) (hn : e ≠ T) : v.ownBlock ≠ some g := by
  rcases h.2 with ⟨rfl, _⟩ | ⟨g2, cap, cur, rfl, hb, hg, _⟩
  · simp [Value.ownBlock]
  · simp only [Value.ownBlock, ne_eq, Option.some.injEq]
    rintro rfl
    have := ha.out
    rw [hg] at this
    injection this with this
    injection this with _ this
    exact hn this
theorem own_set {p : Addr} (h : W.ownsRow base e sz v n cs) (hn : v.ownBlock ≠ some p.block) (u : Value) : (W.setCell p u).ownsRow base e sz v n cs := by
  refine ⟨h.1, ?_⟩
  rcases h.2 with hh | ⟨g2, cap, cur, rfl, hb, hg, r⟩
  · exact .inl hh
  · exact .inr ⟨g2, cap, cur, rfl, hb, by rw [Below.heap_setCell _ _ _ _ (by intro e; exact hn (by simp [Value.ownBlock, e]))]; exact hg, r⟩
theorem own_low {base2 : Nat} (h : W.ownsRow base e sz v n cs) (hb : base2 ≤ base) : W.ownsRow base2 e sz v n cs := by
  refine ⟨h.1, ?_⟩
  rcases h.2 with hh | ⟨g2, cap, cur, rfl, hb2, r⟩
  · exact .inl hh
  · exact .inr ⟨g2, cap, cur, rfl, Nat.le_trans hb hb2, r⟩
theorem own_base (h : W.ownsRow base e sz v n cs) : ∀ k, v.ownBlock = some k → base ≤ k := fun k hk => (h.lt k hk).1
theorem at_grown {g : Nat} {T : TypeId} {ds : Array Value} (h : K.At W g T ds) {row : Option Nat} (hg : W.grownBy W2 row) (hn : row ≠ some g) : K.At W2 g T ds := ⟨(hg.block g h.lt (Ne.symm hn)).trans h.out⟩
theorem below_grown (h : Below w.heap.size w W) {row : Option Nat} (hg : W.grownBy W2 row) (hr : ∀ k, row = some k → w.heap.size ≤ k) : Below w.heap.size w W2 := h.grown hg h.size hr
end
section
variable {P : Program} {ops : Array Oper} {o : Oper} {rest : List Oper} {a : Act} {Q : Exit → Act → World → Prop}
/-- append of one element that has just been built. -/
theorem app1 {W : World} {base n sz bytes g : Nat} {v : Value} {cs news : List Value} (hgd : o.guard = none) (s x : Operand) (t e : TypeId) (z : Value)
    (ho : o.op = .call { callee := .builtin .append, args := #[s, x], argTypes := #[t, t] })
    (ht : P.underlying t = some (.slice e)) (hinfo : (P.info? e).map (fun i => (i.zero, i.size, i.bytes)) = some (some z, sz, bytes)) (hz : z.cells.size = sz) (hsz : 0 < sz) (hby : 0 < bytes)
    (hs : a.eval s = v) (hown : W.ownsRow base e sz v n cs) (hx : a.eval x = .slice (some ⟨g, 0, none⟩) 1 1)
    (hl : news.length = sz) (hnews : ∀ j u, news[j]? = some u → W.cell? ⟨g, j, none⟩ = some u) (h1 : ∀ u ∈ news, u.oneCell' = true) (hb : (n + 1) * bytes ≤ 140737488355328) (hbase : base ≤ W.heap.size)
    (h : ∀ v' w', w'.ownsRow base e sz v' (n + 1) (cs ++ news) → W.grownBy w' v.ownBlock → wpList P ops Q rest (a.put o.dst v') w') : wpList P ops Q (o :: rest) a W := by
  cases hi : P.info? e with
  | none => rw [hi] at hinfo; cases hinfo
  | some i =>
    rw [hi] at hinfo
    simp only [Option.map_some, Option.some.injEq, Prod.mk.injEq] at hinfo
    obtain ⟨hz0, hz1, hz2⟩ := hinfo
    have hmul : n + 1 ≤ (n + 1) * bytes := Nat.le_mul_of_pos_right _ hby
    refine wpList_append_own W hgd s x t ho base e i z sz bytes ht hi hz0 hz1 hz2 hz hsz v n cs hs hown ⟨g, 0, none⟩ 1 1 news hx (by rw [hl]; omega) (fun j u hj => ?_) h1 (by simp only [maxLen]; omega) hb hbase (fun v' w' h2 h3 _ => h v' w' h2 h3)
    have hadd : (⟨g, 0, none⟩ : Addr).add j = ⟨g, j, none⟩ := by unfold Addr.add; split <;> simp_all
    rw [hadd]
    exact hnews j u hj
end
end Go.Proofs.Ytmoaekjkihbicaa.Sl
