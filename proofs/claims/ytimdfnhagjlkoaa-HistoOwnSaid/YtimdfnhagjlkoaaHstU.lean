/- HistoMerges (of lists that together have at most 2^30 numbers): the plain law, and the walk. -/
import Derived.Test.YtimdfnhagjlkoaaHstM
import Derived.Test.YtimdfnhagjlkoaaHstD
set_option linter.unusedVariables false
namespace Go.Proofs.Ytimdfnhagjlkoaa.Hst
open Go.RowKit Go.Proofs.Ytimdfnhagjlkoaa
attribute [local go_sem] K.max2_int K.min2_int K.max_two K.min_two K.max_three K.min_three
set_option linter.unusedSimpArgs false
theorem getD_set (ys : List Int) (k i : Nat) (v : Int) (hi : i < ys.length) : (ys.set k v).getD i 0 = if k = i then v else ys.getD i 0 := by
  rw [List.getD_eq_getElem?_getD, List.getD_eq_getElem?_getD, List.getElem?_set]
  split
  · rw [if_pos (by omega)]; rfl
  · rfl
theorem vto_len (ys xs : List Int) : ∀ j, (vto ys xs j).length = ys.length
  | 0 => rfl
  | j + 1 => by simp only [vto, List.length_set]; exact vto_len ys xs j
theorem vto_get (ys xs : List Int) (i : Nat) (hi : i < ys.length) : ∀ j, (vto ys xs j).getD i 0 = ys.getD i 0 + if i < j then xs.getD i 0 else 0
  | 0 => by simp [vto]
  | j + 1 => by
    simp only [vto]
    rw [getD_set _ _ _ _ (by rw [vto_len]; exact hi)]
    have h := vto_get ys xs i hi j
    by_cases e : j = i
    · subst e
      rw [if_pos rfl, h, if_neg (by omega), if_pos (by omega)]
      omega
    · rw [if_neg e, h]
      by_cases h2 : i < j
      · rw [if_pos h2, if_pos (by omega)]
      · rw [if_neg h2, if_neg (by omega)]
theorem adds_len (ys : List Int) : ∀ ns : List Int, (adds ys ns).length = ys.length := by
  intro ns
  unfold adds
  induction ns generalizing ys with
  | nil => rfl
  | cons n ns ih => simp only [List.foldl_cons]; rw [ih]; simp [inc]
theorem adds_get (i : Nat) : ∀ (ns ys : List Int), i < ys.length → (adds ys ns).getD i 0 = ys.getD i 0 + (ns.countP fun n => decide (bk n = i) : Nat)
  | [], ys, _ => by simp [adds]
  | n :: ns, ys, hi => by
    have h := adds_get i ns (inc ys (bk n)) (by simpa [inc] using hi)
    have e : adds ys (n :: ns) = adds (inc ys (bk n)) ns := rfl
    rw [e, h]
    unfold inc
    rw [getD_set _ _ _ _ hi, List.countP_cons]
    by_cases hb : bk n = i
    · rw [if_pos hb, hb]; simp; omega
    · rw [if_neg hb]; simp [hb]
theorem ext81 {xs ys : List Int} (h1 : xs.length = 81) (h2 : ys.length = 81) (h : ∀ i, i < 81 → xs.getD i 0 = ys.getD i 0) : xs = ys := by
  refine List.ext_getElem (by omega) fun i hi hj => ?_
  have := h i (by omega)
  rw [List.getD_eq_getElem?_getD, List.getD_eq_getElem?_getD, List.getElem?_eq_getElem hi, List.getElem?_eq_getElem hj] at this
  exact this
theorem zero_len : (pad []).length = 81 := rfl
theorem zero_get (i : Nat) : (pad []).getD i 0 = 0 := by
  unfold pad
  rw [List.nil_append, List.getD_eq_getElem?_getD, List.getElem?_replicate]
  split <;> rfl
theorem pad_full {xs : List Int} (h : xs.length = 81) : pad xs = xs := by
  unfold pad
  rw [h]
  simp
theorem merge_12 (a b : List Int) : vto (vto (pad []) (adds (pad []) a) 81) (adds (pad []) b) 81 = adds (adds (pad []) a) b := by
  have la := adds_len (pad []) a
  rw [zero_len] at la
  refine ext81 (by rw [vto_len, vto_len, zero_len]) (by rw [adds_len, la]) fun i hi => ?_
  rw [vto_get _ _ _ (by rw [vto_len, zero_len]; exact hi), vto_get _ _ _ (by rw [zero_len]; exact hi), if_pos hi, if_pos hi, adds_get i b _ (by first | (rw [la]; exact hi) | (rw [zero_len]; exact hi)), adds_get i b _ (by first | (rw [la]; exact hi) | (rw [zero_len]; exact hi)), adds_get i a _ (by rw [zero_len]; exact hi), zero_get]
  omega
theorem merge_21 (a b : List Int) : vto (vto (pad []) (adds (pad []) b) 81) (adds (pad []) a) 81 = adds (adds (pad []) a) b := by
  have la := adds_len (pad []) a
  rw [zero_len] at la
  refine ext81 (by rw [vto_len, vto_len, zero_len]) (by rw [adds_len, la]) fun i hi => ?_
  rw [vto_get _ _ _ (by rw [vto_len, zero_len]; exact hi), vto_get _ _ _ (by rw [zero_len]; exact hi), if_pos hi, if_pos hi, adds_get i b _ (by first | (rw [la]; exact hi) | (rw [zero_len]; exact hi)), adds_get i b _ (by first | (rw [la]; exact hi) | (rw [zero_len]; exact hi)), adds_get i a _ (by rw [zero_len]; exact hi), zero_get]
  omega
theorem two_rds (w : World) (g : Nat) (h1 h2 : HV) (h : K.At w g 54 #[h1.v, .int .i64 h1.t, h2.v, .int .i64 h2.t]) : Sl.Rds w 2 (some ⟨g, 0, none⟩) 2 ([h1, h2].flatMap HV.cs) := by
  refine ⟨rfl, by simp [maxLen], fun _ => ⟨g, 0, rfl, h.lt, fun j hj => ?_⟩⟩
  rw [Nat.zero_add, h.cell]
  simp
theorem okF {ys : List Int} {t : Int} (h : Full ys t) : badH ⟨none, 0, 0, t, ys⟩ = false := by unfold badH; rw [ck_0 h.1]; rfl
/-- Two full histograms, put together. -/
theorem Merge2_c (X Y Z : List Int) (s t : Int) (P Q : Nat) (g : Nat) (w : World) (hX : Full X s) (hY : Full Y t) (hZ : vto (vto (pad []) X 81) Y 81 = Z) (hst : s + t ≤ 1073741824)
    (hP : K.At w P 3 (vals X)) (hQ : K.At w Q 3 (vals Y)) (hg : K.At w g 54 #[.slice (some ⟨P, 0, none⟩) 81 81, .int .i64 s, .slice (some ⟨Q, 0, none⟩) 81 81, .int .i64 t]) :
    Calls Try.prog 35 #[.slice (some ⟨g, 0, none⟩) 2 2] w (AddsPost w Z (s + t)) := by
  let h1 : HV := ⟨some ⟨P, 0, none⟩, 81, 81, s, X⟩
  let h2 : HV := ⟨some ⟨Q, 0, none⟩, 81, 81, t, Y⟩
  have hr : Sl.Rds w 2 (some ⟨g, 0, none⟩) 2 ([h1, h2].flatMap HV.cs) := two_rds w g h1 h2 hg
  have i1 : HV.In w h1 := by have := rds_vals hP (by rw [hX.2]; omega); rwa [hX.2] at this
  have i2 : HV.In w h2 := by have := rds_vals hQ (by rw [hY.2]; omega); rwa [hY.2] at this
  have hb : Sl.anyOf badH [h1, h2] = false := by
    have b1 : badH h1 = false := by unfold badH; rw [ck_0 hX.1]; rfl
    have b2 : badH h2 = false := by unfold badH; rw [ck_0 hY.1]; rfl
    simp [Sl.anyOf, b1, b2]
  have h := Merge_c [h1, h2] _ 2 2 w hr (fun h hm => by rcases List.mem_cons.1 hm with rfl | hm; exact i1; rcases List.mem_cons.1 hm with rfl | hm; exact i2; cases hm) hb
  have ht : tall [h1, h2] = s + t := by simp [tall, h1, h2]
  have hs : someH [h1, h2] = true := by simp [someH, h1, hX.2]
  have hm : mfold [h1, h2] = Z := by
    simp only [mfold, List.foldl_cons, List.foldl_nil, h1, h2]
    rw [hX.2, hY.2]; exact hZ
  refine h.mono fun e w' hh => ?_
  have := (hh.2 (by rw [ht]; exact hst)).2 hs
  rwa [hm, ht] at this
end Go.Proofs.Ytimdfnhagjlkoaa.Hst
