/- CallOver: the walk. -/
import Derived.Test.YtfepjpjkamlneaaClR
set_option linter.unusedVariables false
namespace Go.Proofs.Ytfepjpjkamlneaa.Cl
open Go.RowKit Go.Proofs.Ytfepjpjkamlneaa
attribute [local go_sem] K.max2_int K.min2_int K.max_two K.min_two K.max_three K.min_three
set_option linter.unusedSimpArgs false
def anyP (ps : List Int) (i : Nat) : Bool := ps.any (fun p => p == (i : Int))
theorem anyP_take {ps : List Int} {j : Nat} {p : Int} (h : ps[j]? = some p) (i : Nat) : anyP (ps.take (j + 1)) i = (anyP (ps.take j) i || (p == (i : Int))) := by
  unfold anyP
  rw [List.take_add_one, h, Option.toList_some, List.any_append]; simp
theorem mark_at {l : List Att} {p : Int} (hp : 0 ≤ p) {i : Nat} {a : Att} (h : l[i]? = some a) : (mark l p)[i]? = some (if p == (i : Int) then a.done else a) := by
  unfold mark
  by_cases e : p = (i : Int)
  · subst e
    simp only [Int.toNat_natCast, h, beq_self_eq_true, if_true]
    rw [List.getElem?_set_self (List.getElem?_eq_some_iff.1 h).1]
  · rw [if_neg (by simpa using e)]
    split
    · rw [List.getElem?_set_ne (by omega)]; exact h
    · exact h
theorem marks_at : ∀ (ps : List Int) (l : List Att) (_ : ∀ p ∈ ps, 0 ≤ p) (i : Nat) (a : Att), l[i]? = some a → ∃ y, (marks l ps)[i]? = some y ∧ y.over = (a.over || anyP ps i)
  | [], l, _, i, a, h => ⟨a, h, by simp [anyP]⟩
  | p :: r, l, hp, i, a, h => by
    obtain ⟨y, h1, h2⟩ := marks_at r (mark l p) (fun q hq => hp q (List.mem_cons_of_mem _ hq)) i _ (mark_at (hp p (List.mem_cons_self ..)) h)
    refine ⟨y, h1, ?_⟩
    rw [h2]
    unfold anyP
    rw [List.any_cons]
    by_cases e : (p == (i : Int)) = true
    · rw [if_pos e, e]; simp [Att.done]
    · rw [if_neg e, Bool.eq_false_iff.2 e, Bool.false_or]
theorem overF_bad {x : Cal} {s : Set} {tick draw : Int} {ps : List Int} (h : (overF x s tick draw ps).2 ≠ 0) : (overF x s tick draw ps).1 = Cal.zero := by
  unfold overF at *
  split
  · rfl
  · rename_i h1
    rw [if_neg h1] at h
    split
    · rfl
    · rename_i h2
      rw [if_neg h2] at h
      split
      · rename_i h3; rw [if_pos h3] at h; exact absurd rfl h
      · rename_i h3; rw [if_neg h3] at h; exact absurd rfl h
theorem oOver_bad {x : Cal} {s : Set} {tick draw : Int} {ps : List Int} (h : (oOver x s tick draw ps).2 ≠ 0) : (oOver x s tick draw ps).1 = Cal.zero := by
  unfold oOver at *
  split
  · rename_i h1; rw [if_pos h1] at h; exact overF_bad h
  · rfl
/-- What comes of a call where nothing is refused. -/
theorem oOver_ok {x : Cal} {s : Set} {tick draw : Int} {ps : List Int} (h : (oOver x s tick draw ps).2 = 0) (d0 : 0 ≤ draw) (d1 : draw < 18446744073709551616) :
    ∃ nx, (oOver x s tick draw ps).1 = { markC x ps with nx := nx } ∧ eCall x s = 0 ∧ (0 ≤ tick ∧ tick ≤ 268435456) ∧ inAll 0 ((x.l.length : Int) - 1) ps = true ∧
      ((¬ (nO (markC x ps) = 0 ∧ 0 < x.l.length) ∧ nx = x.nx) ∨ (nO (markC x ps) = 0 ∧ 0 < x.l.length ∧ ∃ dl, nx = tick + dl ∧ 1 ≤ dl ∧ dl ≤ Bof.oMost s.bo x.l.length ∧ dl ≤ 1048576)) := by
  unfold oOver at *
  by_cases h1 : eCall x s = 0
  · rw [if_pos h1] at *
    have hok := (eCall_ok h1).1
    have h16 := ok_len h1
    unfold overF at *
    by_cases h2 : inB 0 268435456 tick = false
    · rw [if_pos h2] at h; exact absurd h (by decide)
    · rw [if_neg h2] at *
      by_cases h3 : inAll 0 ((x.l.length : Int) - 1) ps = false
      · rw [if_pos h3] at h; exact absurd h (by decide)
      · rw [if_neg h3] at *
        refine ⟨(if nO (markC x ps) = 0 ∧ 0 < x.l.length then tick + Bof.oDelay s.bo x.l.length draw else x.nx), ?_, h1, inB_t.1 (by simpa using h2), by simpa using h3, ?_⟩
        · split <;> rfl
        · by_cases h4 : nO (markC x ps) = 0 ∧ 0 < x.l.length
          · rw [if_pos h4]
            have hb : Bof.Ok s.bo := by unfold Set.ok at hok; exact hok.2.2.2.2.2
            have hn : 1 ≤ (x.l.length : Int) ∧ (x.l.length : Int) ≤ 64 := by omega
            have hm := Bof.mstI_in hb (x.l.length : Int)
            have hd := Bof.less_in hb hm.1 hm.2 d0 d1
            refine .inr ⟨h4.1, h4.2, _, rfl, ?_⟩
            rw [Bof.delay_0 hb hn, (Bof.most_0 hb hn).2]
            omega
          · rw [if_neg h4]
            exact .inl ⟨h4, rfl⟩
  · rw [if_neg h1] at h; exact absurd h h1
end Go.Proofs.Ytfepjpjkamlneaa.Cl
