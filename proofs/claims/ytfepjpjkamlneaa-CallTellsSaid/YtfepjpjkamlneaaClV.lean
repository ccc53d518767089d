/- CallSlow: the plain law. -/
import Derived.Test.YtfepjpjkamlneaaClU
set_option linter.unusedVariables false
namespace Go.Proofs.Ytfepjpjkamlneaa.Cl
open Go.RowKit Go.Proofs.Ytfepjpjkamlneaa
set_option linter.unusedSimpArgs false
theorem mark_done (l : List Att) (p : Int) : (mark l p).map Att.done = l.map Att.done := by
  unfold mark
  split
  · rename_i a ha
    apply List.ext_getElem?
    intro i
    rw [List.getElem?_map, List.getElem?_map]
    by_cases e : i = p.toNat
    · subst e
      rw [List.getElem?_set_self (List.getElem?_eq_some_iff.1 ha).1, ha]; rfl
    · rw [List.getElem?_set_ne (Ne.symm e)]
  · rfl
theorem marks_done : ∀ (ps : List Int) (l : List Att), (marks l ps).map Att.done = l.map Att.done
  | [], l => rfl
  | p :: r, l => (marks_done r (mark l p)).trans (mark_done l p)
theorem done_getD {l m : List Att} (h : m.map Att.done = l.map Att.done) (k : Nat) : (m.getD k default).done = (l.getD k default).done := by
  have h2 := congrArg (fun q => q[k]?) h
  simp only [List.getElem?_map] at h2
  rw [List.getD_eq_getElem?_getD, List.getD_eq_getElem?_getD]
  cases ha : m[k]? <;> cases hb : l[k]? <;> simp [ha, hb] at h2 ⊢
  exact h2
theorem okI_done {x y : Cal} (ho : y.once = x.once) (ha : y.at_ = x.at_) (h : y.l.map Att.done = x.l.map Att.done) (k : Nat) : okI y k = okI x k := by
  have e0 := done_getD h k
  have e1 := done_getD h 0
  have e2 := done_getD h (k - 1)
  unfold okI lastI
  rw [ho, ha]
  show okA _ (if k = 0 then x.at_ else (y.l.getD (k - 1) default).done.t) _ (y.l.getD k default).done (y.l.getD 0 default).done = okA _ (if k = 0 then x.at_ else (x.l.getD (k - 1) default).done.t) _ (x.l.getD k default).done (x.l.getD 0 default).done
  rw [e0, e1, e2]
/-- A call whose attempts are over, but are the same, and whose next time is in range, may be. -/
theorem eCall_marks {x : Cal} {s : Set} (h : eCall x s = 0) (ps : List Int) (nx : Int) (hn : 0 ≤ nx ∧ nx ≤ 536870912) : eCall { markC x ps with nx := nx } s = 0 := by
  have h1 := (eCall_ok h).1
  have hh := ok_head h
  refine eCall_0 h1 ?_
  unfold fineB
  have hl : (marks x.l ps).length = x.l.length := marks_len ps x.l
  rw [Bool.and_eq_true, decide_eq_true_eq]
  refine ⟨?_, allOk_t fun j hj => ?_⟩
  · unfold headP at *
    refine ⟨hh.1, hh.2.1, hh.2.2.1, hh.2.2.2.1, ?_, hh.2.2.2.2.2.1, ?_⟩
    · exact hn
    · have := hh.2.2.2.2.2.2; show ((marks x.l ps).length : Int) ≤ s.att; rw [hl]; exact this
  · have hj2 : j < x.l.length := by rw [← hl]; exact hj
    rw [okI_done (x := x) (y := { markC x ps with nx := nx }) rfl rfl (marks_done ps x.l) j]
    exact ok_at h hj2
theorem mem_outT {l : List Att} {i : Nat} {a : Att} (h : l[i]? = some a) (ho : a.over = false) : ∀ k, i < k → (i, a) ∈ outT l k
  | 0, hk => by omega
  | k + 1, hk => by
    unfold outT
    by_cases e : i = k
    · subst e; rw [h]; simp [ho]
    · have ih := mem_outT h ho k (by omega)
      split
      · split
        · exact ih
        · exact List.mem_append_left _ ih
      · exact ih
theorem marks_t {l : List Att} {ps : List Int} {i : Nat} {a y : Att} (ha : l[i]? = some a) (hy : (marks l ps)[i]? = some y) : y.t = a.t := by
  have h := done_getD (marks_done ps l) i
  rw [List.getD_eq_getElem?_getD, List.getD_eq_getElem?_getD, ha, hy] at h
  have h2 : y.done = a.done := h
  have h3 : y.done.t = a.done.t := by rw [h2]
  exact h3
/-- Behind slow ones' being over none is slow. -/
theorem slow_none (s : Set) (tick : Int) (l : List Att) (k : Nat) (hk : l.length ≤ k) : slowL s tick (outT (marks l (slowL s tick (outT l l.length))) k) = [] := by
  unfold slowL
  rw [List.map_eq_nil_iff, List.filter_eq_nil_iff]
  intro p hp hs
  obtain ⟨h1, h2, h3⟩ := outT_in _ _ _ hp
  have hl := (List.getElem?_eq_some_iff.1 h2).1
  rw [marks_len] at hl
  have ha : l[p.1]? = some l[p.1] := List.getElem?_eq_getElem hl
  obtain ⟨y, hy, ho⟩ := marks_at (((outT l l.length).filter (slowB s tick)).map fun p => (p.1 : Int)) l (fun q hq => by obtain ⟨r, _, rfl⟩ := List.mem_map.1 hq; omega) p.1 _ ha
  rw [h2] at hy; cases hy
  rw [h3] at ho
  have ho2 := (Bool.or_eq_false_iff.1 ho.symm)
  have ht := marks_t ha h2
  have hsl : slowB s tick (p.1, l[p.1]) = true := by unfold slowB at *; rw [← ht]; exact hs
  have hm := mem_outT ha ho2.1 l.length hl
  have : anyP (((outT l l.length).filter (slowB s tick)).map fun p => (p.1 : Int)) p.1 = true := by
    unfold anyP
    rw [List.any_eq_true]
    exact ⟨(p.1 : Int), List.mem_map.2 ⟨(p.1, l[p.1]), List.mem_filter.2 ⟨hm, hsl⟩, rfl⟩, by simp⟩
  rw [this] at ho2; exact absurd ho2.2 (by decide)
theorem slow_in {x : Cal} {s : Set} {tick : Int} (h : eCall x s = 0) {i : Int} (hi : i ∈ slowL s tick (outT x.l x.l.length)) : ∃ (k : Nat) (a : Att), i = (k : Int) ∧ x.l[k]? = some a ∧ a.over = false ∧ a.t + s.tmo ≤ tick ∧ 0 ≤ a.t ∧ a.t ≤ 536870912 := by
  unfold slowL at hi
  obtain ⟨p, hp, rfl⟩ := List.mem_map.1 hi
  obtain ⟨hp1, hp2⟩ := List.mem_filter.1 hp
  obtain ⟨h1, h2, h3⟩ := outT_in _ _ _ hp1
  have ht := ok_t h _ _ h2
  have h0 := (ok_head h).2.2.2.1
  have hk := (eCall_ok h).1
  unfold Set.ok at hk
  unfold slowB at hp2
  rw [decide_eq_true_eq, IntWalk.wrap64_in _ (by omega)] at hp2
  exact ⟨p.1, p.2, rfl, h2, h3, hp2, by omega, by omega⟩
theorem slow_all {x : Cal} {s : Set} {tick : Int} (h : eCall x s = 0) : inAll 0 ((x.l.length : Int) - 1) (slowL s tick (outT x.l x.l.length)) = true := by
  unfold inAll
  rw [Bool.not_eq_true']
  rw [← Bool.not_eq_true]
  intro hb
  obtain ⟨i, hi, hb⟩ := Sl.anyOf_true hb
  obtain ⟨k, a, rfl, ha, _⟩ := slow_in h hi
  have := (List.getElem?_eq_some_iff.1 ha).1
  rw [bad_t] at hb; omega
end Go.Proofs.Ytfepjpjkamlneaa.Cl
