/- append(nil, l...): a slice of whole numbers, copied. -/
import Derived.Test.YtmoaekjkihbicaaSl
import Derived.ArgAppend
import Derived.Deep.Upon
set_option linter.unusedVariables false
namespace Go.Proofs.Ytmoaekjkihbicaa.Sl
open Go.RowKit Go.Proofs.Ytmoaekjkihbicaa
section
variable {P : Program} {ops : Array Oper} {rest : List Oper} {o : Oper} {a : Go.Act} {Q : Exit → Go.Act → World → Prop}
theorem wp_append_none {W : World} (hgd : o.guard = none) (s x : Operand) (t e : TypeId) (i : TypeInfo)
    (ho : o.op = .call { callee := .builtin .append, args := #[s, x], argTypes := #[t, t] }) (ht : P.underlying t = some (.slice e)) (hi : P.info? e = some i)
    (A : Option Addr) (c : Nat) (hs : a.eval s = .slice none 0 0) (hx : a.eval x = .slice A 0 c) (h : wpList P ops Q rest (a.put o.dst (.slice none 0 0)) W) : wpList P ops Q (o :: rest) a W := by
  refine wpList_plain hgd fun K hK => ?_
  have hsrc : Src P i.size t (.slice A 0 c) 0 [] W := by
    cases A with
    | none => exact Src.ofNil W ht c
    | some ad => exact Src.ofSlice W ht ad 0 c [] (by simp) (fun _ _ h => by cases h) (fun _ h => by cases h)
  have hrun := run_append_nothing W t t o.type e i ht hi none 0 0 (Nat.le_refl _) _ hsrc
  unfold Oper.wp
  simp [execOp, ho, resolve, invoke, builtin, hs, hx, hrun, Result.andThen]
  exact hK _ _ h
/-- A copy of the whole of a slice, in memory of its own. -/
theorem app_all {W : World} (hgd : o.guard = none) (s x : Operand) (t e : TypeId) (z : Value) (sz bytes : Nat)
    (ho : o.op = .call { callee := .builtin .append, args := #[s, x], argTypes := #[t, t] })
    (ht : P.underlying t = some (.slice e)) (hinfo : (P.info? e).map (fun i => (i.zero, i.size, i.bytes)) = some (some z, sz, bytes)) (hz : z.cells.size = sz) (hsz : 0 < sz)
    (A : Option Addr) (n c : Nat) (cs : List Value) (hs : a.eval s = .slice none 0 0) (hx : a.eval x = .slice A n c) (hr : Rds W sz A n cs) (h1 : ∀ u ∈ cs, u.oneCell' = true) (hb : n * bytes ≤ 140737488355328)
    (h : ∀ v' w', w'.ownsRow W.heap.size e sz v' n cs → Below W.heap.size W w' → wpList P ops Q rest (a.put o.dst v') w') : wpList P ops Q (o :: rest) a W := by
  cases hi : P.info? e with
  | none => rw [hi] at hinfo; cases hinfo
  | some i =>
    rw [hi] at hinfo
    simp only [Option.map_some, Option.some.injEq, Prod.mk.injEq] at hinfo
    obtain ⟨hz0, hz1, hz2⟩ := hinfo
    by_cases hn : n = 0
    · subst hn
      have hc0 : cs = [] := List.eq_nil_of_length_eq_zero (by rw [hr.len]; omega)
      subst hc0
      exact wp_append_none hgd s x t e i ho ht hi A c hs hx (h _ _ (World.ownsRow_nil W _ e sz) (Below.refl _ _))
    · obtain ⟨b, off, rfl, hbl, hcs⟩ := hr.at_ (by omega)
      refine wpList_append_grows W hgd s x t ho e i z sz bytes ht hi hz0 hz1 hz2 hz hsz none 0 0 [] hs (fun _ => ⟨rfl, rfl⟩) (by simp) (fun _ h => by cases h) ⟨b, off, none⟩ n c cs hx hr.len (fun j u hj => ?_) h1 (by omega) (by have := hr.small; omega) (by rw [Nat.zero_add]; exact hb) (fun v' w' h2 h3 => h v' w' (by simpa using h2) ?_)
      · have hadd : (⟨b, off, none⟩ : Addr).add j = ⟨b, off + j, none⟩ := by unfold Addr.add; split <;> simp_all
        rw [hadd, hcs j (List.getElem?_eq_some_iff.1 hj).1]
        exact hj
      · exact (Below.refl _ _).grown h3 (Nat.le_refl _) (fun k hk => by cases hk)
end
end Go.Proofs.Ytmoaekjkihbicaa.Sl
