/- Ring: Walk, whatever the ring; what it tells, plain. -/
import Derived.Test.YtkalbiihehcjkaaRg30
set_option linter.unusedVariables false
namespace Go.Proofs.Ytkalbiihehcjkaa.Rg
open Go.RowKit Go.Shelf Go.Proofs.Ytkalbiihehcjkaa
set_option linter.unusedSimpArgs false
set_option maxRecDepth 100000 in
set_option maxHeartbeats 2000000 in
theorem Walk_bad (l : List Pt) (h : Int) (A : Option Addr) (n c : Nat) (w : World) (hr : Sl.Rds w 2 A n (l.flatMap Pt.cs)) (he : eAsk l ≠ 0) :
    Calls Try.prog 16 #[.slice A n c, .int .u64 h] w (IPost w [] (eAsk l)) := by
  have GA := K.H.mk (fun (W : World) (hb : Below w.heap.size w W) => ask_c l A n c W (hr.below hb))
  have hd : (eAsk l != 0) = true := by simpa using he
  generalize eAsk l = er at *
  clear hr he
  go_enter Try.func16, Try.ntmps16
  go_wp2_with (first | (go_at_call 34; (with_reducible refine (GA.out _ (by repeat (first | (with_reducible exact Below.refl _ _) | (with_reducible refine K.b_bel ?_ (by assumption)) | (with_reducible refine K.b_alloc ?_ _) | (with_reducible refine K.b_drewN ?_ _) | (with_reducible refine K.b_drew ?_) | (with_reducible refine K.b_set ?_ (by first | omega | (simp <;> omega)) _) | (with_reducible refine K.b_only ?_ (by assumption) (by first | omega | (simp <;> omega)))))).mono ?_); rintro e W1 ⟨rfl, hb1⟩; obtain ⟨hB1, hC1, hF1, hZ1⟩ := K.bel_facts hb1; clear hb1))
  go_ret2
  exact ⟨_, rfl, World.ownsRow_nil _ _ _ _, (by repeat (first | (with_reducible exact Below.refl _ _) | (with_reducible refine K.b_bel ?_ (by assumption)) | (with_reducible refine K.b_alloc ?_ _) | (with_reducible refine K.b_drewN ?_ _) | (with_reducible refine K.b_drew ?_) | (with_reducible refine K.b_set ?_ (by first | omega | (simp <;> omega)) _) | (with_reducible refine K.b_only ?_ (by assumption) (by first | omega | (simp <;> omega)))))⟩
theorem Walk_c (l : List Pt) (h : Int) (A : Option Addr) (n c : Nat) (w : World) (hr : Sl.Rds w 2 A n (l.flatMap Pt.cs)) (hwf : ∀ x ∈ l, (Lit.int .i64 x.i).wf = true) :
    Calls Try.prog 16 #[.slice A n c, .int .u64 h] w (IPost w (oWalk l h) (eAsk l)) := by
  unfold oWalk
  by_cases he : eAsk l = 0
  · rw [if_pos he]
    have := Walk_ok l h A n c w hr he hwf
    rw [he]; exact this
  · rw [if_neg he]; exact Walk_bad l h A n c w hr he
/-! ### plain -/
theorem fold_mem (L : List Int) : ∀ (S : List Int) (x : Int), x ∈ L.foldl addN S ↔ x ∈ S ∨ x ∈ L := by
  induction L with
  | nil => intro S x; simp
  | cons y r ih => intro S x; rw [List.foldl_cons, ih, addN_mem, List.mem_cons, or_assoc]
theorem once_mem {L : List Int} {x : Int} : x ∈ onceOf L ↔ x ∈ L := by unfold onceOf; rw [fold_mem]; simp
theorem addN_nodup {S : List Int} (h : S.Nodup) (x : Int) : (addN S x).Nodup := by
  unfold addN
  split
  · exact h
  · rename_i hx
    rw [List.nodup_append]
    refine ⟨h, by simp, ?_⟩
    intro a ha b hb
    simp at hb; subst hb
    rintro rfl
    exact hx ha
theorem fold_nodup (L : List Int) : ∀ (S : List Int), S.Nodup → (L.foldl addN S).Nodup := by
  induction L with
  | nil => intro S h; exact h
  | cons y r ih => intro S h; exact ih _ (addN_nodup h y)
theorem once_nodup (L : List Int) : (onceOf L).Nodup := fold_nodup L [] .nil
theorem fold_head (L : List Int) : ∀ (S : List Int) (x : Int), S[0]? = some x → (L.foldl addN S)[0]? = some x := by
  induction L with
  | nil => intro S x h; exact h
  | cons y r ih =>
    intro S x h
    refine ih _ _ ?_
    unfold addN
    split
    · exact h
    · rw [List.getElem?_append_left (List.getElem?_eq_some_iff.1 h).1]; exact h
theorem once_head (x : Int) (L : List Int) : (onceOf (x :: L))[0]? = some x := by
  unfold onceOf; rw [List.foldl_cons]; exact fold_head _ _ _ (by simp [addN])
theorem walk_nodup (l : List Pt) (h : Int) : (oWalk l h).Nodup := by
  unfold oWalk; split
  · exact once_nodup _
  · exact .nil
theorem idAt_all {l : List Pt} (a : Nat) {q : Pt} (hq : q ∈ l) : ∃ j, j < l.length ∧ idAt l a j = q.i := by
  obtain ⟨i, hi, rfl⟩ := List.mem_iff_getElem.1 hq
  have hn : 0 < l.length := by omega
  have ha := Nat.mod_lt a hn
  refine ⟨(i + l.length - a % l.length) % l.length, Nat.mod_lt _ hn, ?_⟩
  have e : (a + (i + l.length - a % l.length) % l.length) % l.length = i := by
    rw [Nat.add_mod, Nat.mod_mod, ← Nat.add_mod, ← Nat.mod_add_mod]
    rw [show a % l.length + (i + l.length - a % l.length) = i + l.length by omega]
    simp [Nat.mod_eq_of_lt hi]
  unfold idAt
  rw [e, List.getElem?_eq_getElem hi]; rfl
theorem walk_mem {l : List Pt} {h : Int} (he : eAsk l = 0) {x : Int} : x ∈ oWalk l h ↔ ∃ q ∈ l, q.i = x := by
  obtain ⟨_, h2, _, _⟩ := eAsk_ok he
  unfold oWalk walkN
  rw [if_pos he, once_mem, List.mem_map]
  constructor
  · rintro ⟨j, _, rfl⟩
    obtain ⟨q, hq, e⟩ := idAt_mem h2 (ahead l h) j
    exact ⟨q, hq, e.symm⟩
  · rintro ⟨q, hq, rfl⟩
    obtain ⟨j, hj, e⟩ := idAt_all (ahead l h) hq
    exact ⟨j, List.mem_range.2 hj, e⟩
theorem walk_head {l : List Pt} {h : Int} (he : eAsk l = 0) : (oWalk l h)[0]? = some (oLook l h) := by
  obtain ⟨_, h2, _, _⟩ := eAsk_ok he
  unfold oWalk walkN oLook lookI
  rw [if_pos he, if_pos he]
  obtain ⟨m, hm⟩ : ∃ m, l.length = m + 1 := ⟨l.length - 1, by omega⟩
  conv => lhs; rw [hm]
  rw [List.range_succ_eq_map, List.map_cons]
  exact once_head _ _
theorem walk_nil {l : List Pt} {h : Int} (he : eAsk l ≠ 0) : oWalk l h = [] := by unfold oWalk; rw [if_neg he]
theorem walk_len {l : List Pt} {h : Int} : (oWalk l h).length ≤ l.length := by
  unfold oWalk walkN; split
  · have := once_len ((List.range l.length).map (idAt l (ahead l h))); simpa using this
  · simp
end Go.Proofs.Ytkalbiihehcjkaa.Rg
