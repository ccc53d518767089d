/- Ring: what Build tells, plain: points rise; each backend has as many as its weight says. -/
import Derived.Test.YtkalbiihehcjkaaRg20
set_option linter.unusedVariables false
namespace Go.Proofs.Ytkalbiihehcjkaa.Rg
open Go.RowKit Go.Proofs.Ytkalbiihehcjkaa
set_option linter.unusedSimpArgs false
theorem Build_c (l : List Bk) (p : Int) (A : Option Addr) (n c : Nat) (w : World) (hr : Sl.Rds w 2 A n (l.flatMap Bk.cs)) :
    Calls Try.prog 10 #[.int .i64 p, .slice A n c] w (BPost w (oBuild p l) (eBuild p l)) := by
  by_cases h : eChk l = 0
  · by_cases h2 : p < 1 ∨ 64 < p
    · have he : eBuild p l = 4 := by unfold eBuild; rw [if_pos h, if_pos h2]
      have ho : oBuild p l = [] := by unfold oBuild; rw [if_neg (by omega)]
      rw [he, ho]; exact build_range l p A n c w hr h h2
    · exact Build_ok l p A n c w hr h (by omega) (by omega)
  · have he : eBuild p l = eChk l := by unfold eBuild; rw [if_neg h]
    have ho : oBuild p l = [] := by unfold oBuild; rw [if_neg (by omega)]
    rw [he, ho]; exact build_bad l p A n c w hr h
theorem eBuild_0 {p : Int} {l : List Bk} (h : eBuild p l = 0) : eChk l = 0 ∧ 1 ≤ p ∧ p ≤ 64 ∧ (rawTo p l).length ≤ 1024 ∧ oBuild p l = sortP (rawTo p l) := by
  have ho : oBuild p l = sortP (rawTo p l) := by unfold oBuild; rw [if_pos h]
  unfold eBuild at h
  by_cases h1 : eChk l = 0
  · rw [if_pos h1] at h
    by_cases h2 : p < 1 ∨ 64 < p
    · rw [if_pos h2] at h; omega
    · rw [if_neg h2] at h
      by_cases h3 : 1024 < (rawTo p l).length
      · rw [if_pos h3] at h; omega
      · exact ⟨h1, by omega, by omega, by omega, ho⟩
  · rw [if_neg h1] at h; exact absurd h h1
theorem oBuild_nil {p : Int} {l : List Bk} (h : eBuild p l ≠ 0) : oBuild p l = [] := by unfold oBuild; rw [if_neg h]
theorem ord_sortP (L : List Pt) : ord (sortP L) = true := by
  rw [ord_iff]
  intro j x y hx hy
  obtain ⟨h1, rfl⟩ := List.getElem?_eq_some_iff.1 hx
  obtain ⟨h2, rfl⟩ := List.getElem?_eq_some_iff.1 hy
  exact List.pairwise_iff_getElem.1 (sortP_le L) j (j + 1) h2 h1 (by omega)
theorem raw_of {p : Int} {l : List Bk} {q : Pt} (h : q ∈ rawTo p l) : ∃ x ∈ l, q.i = x.id := by
  unfold rawTo at h
  obtain ⟨x, hx, hq⟩ := List.mem_flatMap.1 h
  unfold rowOf at hq
  obtain ⟨k, _, rfl⟩ := List.mem_map.1 hq
  exact ⟨x, hx, rfl⟩
theorem anyOf_f {α : Type} {p : α → Bool} {xs : List α} (h : ∀ x ∈ xs, p x = false) : Sl.anyOf p xs = false := by
  cases hc : Sl.anyOf p xs
  · rfl
  · obtain ⟨x, hx, hp⟩ := Sl.anyOf_true hc
    rw [h x hx] at hp; cases hp
theorem wChk_build {p : Int} {l : List Bk} (h : eBuild p l = 0) : wChk (oBuild p l) = 0 := by
  obtain ⟨h1, h2, h3, h4, h5⟩ := eBuild_0 h
  obtain ⟨f1, f2, f3⟩ := eChk_fine h1
  unfold wChk
  rw [if_neg (by rw [h5, sortP_len]; omega), if_pos]
  refine ⟨by rw [h5]; exact ord_sortP _, anyOf_f fun q hq => ?_⟩
  rw [h5] at hq
  obtain ⟨x, hx, he⟩ := raw_of ((sortP_perm _).mem_iff.1 hq)
  unfold Pt.neg
  rw [he]
  have := (f2 x hx).1
  simp; omega
theorem ris_pair : ∀ {l : List Bk}, ris l = true → l.Pairwise fun a b => a.id < b.id
  | [], _ => .nil
  | [a], _ => by simp
  | a :: b :: r, h => by
    unfold ris at h
    rw [Bool.and_eq_true, decide_eq_true_eq] at h
    have ih := ris_pair h.2
    refine List.pairwise_cons.2 ⟨fun x hx => ?_, ih⟩
    rcases List.mem_cons.1 hx with rfl | hx
    · exact h.1
    · have := (List.pairwise_cons.1 ih).1 x hx
      omega
theorem cnt_row (b : Bk) (m : Nat) (i : Int) : (rowOf b m).countP (fun q => q.i == i) = if b.id = i then m else 0 := by
  unfold rowOf
  rw [List.countP_map]
  split
  · rename_i h
    have e : (List.range m).countP ((fun q : Pt => q.i == i) ∘ ptAt b) = (List.range m).length := by
      rw [List.countP_eq_length]; intro k _; simp [ptAt, h]
    rw [e, List.length_range]
  · rename_i h
    rw [List.countP_eq_zero]; intro k _; simp [ptAt, h]
theorem cnt_not {p : Int} {l : List Bk} {i : Int} (h : ∀ x ∈ l, x.id ≠ i) : (rawTo p l).countP (fun q => q.i == i) = 0 := by
  rw [List.countP_eq_zero]; intro q hq
  obtain ⟨x, hx, he⟩ := raw_of hq
  have := h x hx
  simp; omega
theorem cnt_raw {p : Int} : ∀ {l : List Bk} {x : Bk}, l.Pairwise (fun a b => a.id < b.id) → x ∈ l → (rawTo p l).countP (fun q => q.i == x.id) = cnt p x
  | a :: r, x, hp, hx => by
    have hp2 := List.pairwise_cons.1 hp
    have e : rawTo p (a :: r) = rowOf a (cnt p a) ++ rawTo p r := by unfold rawTo; rw [List.flatMap_cons]
    rw [e, List.countP_append, cnt_row]
    rcases List.mem_cons.1 hx with rfl | hx
    · rw [if_pos rfl, cnt_not (fun y hy => by have := hp2.1 y hy; omega)]; rfl
    · rw [if_neg (by have := hp2.1 x hx; omega), cnt_raw hp2.2 hx]; omega
theorem cnt_build {p : Int} {l : List Bk} (h : eBuild p l = 0) {x : Bk} (hx : x ∈ l) : (oBuild p l).countP (fun q => q.i == x.id) = cnt p x := by
  obtain ⟨h1, h2, h3, h4, h5⟩ := eBuild_0 h
  rw [h5, (sortP_perm _).countP_eq]
  exact cnt_raw (ris_pair (eChk_fine h1).2.2) hx
theorem len_build {p : Int} {l : List Bk} (h : eBuild p l = 0) : (oBuild p l).length = (rawTo p l).length := by
  rw [(eBuild_0 h).2.2.2.2, sortP_len]
theorem take_cnt {l : List Pt} {j : Nat} {q : Pt} (h : l[j]? = some q) (i : Int) : (l.take (j + 1)).countP (fun q => q.i == i) = (l.take j).countP (fun q => q.i == i) + if (q.i == i) = true then 1 else 0 := by
  rw [List.take_add_one, h, List.countP_append]
  simp [List.countP_cons]
/-! ### The ring that is alive -/
def L4 : List Bk := [⟨4, 2⟩]
theorem l4_e : eBuild 3 L4 = 0 := by
  have h1 : eChk L4 = 0 := by decide
  have h2 : (rawTo 3 L4).length = 6 := by unfold rawTo L4; rw [List.flatMap_cons, List.length_append, rowOf_len]; rfl
  unfold eBuild
  rw [if_pos h1, if_neg (by omega), if_neg (by omega)]
theorem l4_len : (oBuild 3 L4).length = 6 := by
  rw [len_build l4_e]; unfold rawTo L4; rw [List.flatMap_cons, List.length_append, rowOf_len]; rfl
theorem l4_ask : eAsk (oBuild 3 L4) = 0 := by
  unfold eAsk; rw [if_pos (wChk_build l4_e), if_neg (by rw [l4_len]; omega)]
theorem look_mem {l : List Pt} (h0 : 0 < l.length) (h : Int) : ∃ q ∈ l, lookI l h = q.i := by
  have hm := Nat.mod_lt (ahead l h) h0
  refine ⟨l[ahead l h % l.length], List.getElem_mem hm, ?_⟩
  unfold lookI
  rw [List.getElem?_eq_getElem hm]; rfl
theorem l4_look (h : Int) : oLook (oBuild 3 L4) h = 4 := by
  unfold oLook; rw [if_pos l4_ask]
  obtain ⟨q, hq, e⟩ := look_mem (l := oBuild 3 L4) (by rw [l4_len]; omega) h
  rw [e]
  rw [(eBuild_0 l4_e).2.2.2.2] at hq
  obtain ⟨x, hx, he⟩ := raw_of ((sortP_perm _).mem_iff.1 hq)
  rw [he]
  simp [L4] at hx
  rw [hx]
end Go.Proofs.Ytkalbiihehcjkaa.Rg
