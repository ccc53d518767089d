/- Subset: plain laws on subsets; 'has'; the page's example. -/
import Derived.Test.YtpafbjffecpdmaaSb6
import Derived.Test.YtpafbjffecpdmaaSame
set_option linter.unusedVariables false
namespace Go.Proofs.Ytpafbjffecpdmaa.Sb
open Go.RowKit Go.Proofs.Ytpafbjffecpdmaa
attribute [local go_sem] K.max2_int K.min2_int K.max_two K.min_two K.max_three K.min_three
set_option linter.unusedSimpArgs false
theorem rises_pair : ∀ {last : Int} {l : List Int}, rises last l = true → (∀ x ∈ l, last < x) ∧ l.Pairwise (· < ·)
  | _, [], _ => ⟨fun _ h => by simp at h, List.Pairwise.nil⟩
  | last, x :: r, h => by
    unfold rises at h
    rw [Bool.and_eq_true, decide_eq_true_eq] at h
    obtain ⟨h1, h2⟩ := rises_pair h.2
    refine ⟨fun y hy => ?_, List.Pairwise.cons (fun y hy => h1 y hy) h2⟩
    rcases List.mem_cons.1 hy with rfl | hy
    · exact h.1
    · have := h1 y hy; omega
theorem eChk_rise {ids : List Int} (h : eChk ids = 0) : ids.Pairwise (· < ·) ∧ ∀ x ∈ ids, -1 < x := by
  unfold eChk at h
  split at h
  · omega
  · split at h
    · rename_i h2; exact ⟨(rises_pair h2).2, (rises_pair h2).1⟩
    · omega
theorem lt_get {ids : List Int} (h : ids.Pairwise (· < ·)) {i j : Nat} (hi : i < ids.length) (hj : j < ids.length) (e : ids.getD i 0 = ids.getD j 0) : i = j := by
  rw [List.getD_eq_getElem?_getD, List.getElem?_eq_getElem hi, List.getD_eq_getElem?_getD, List.getElem?_eq_getElem hj] at e
  simp only [Option.getD_some] at e
  rw [List.pairwise_iff_getElem] at h
  rcases Nat.lt_trichotomy i j with h1 | h1 | h1
  · have := h i j hi hj h1; omega
  · exact h1
  · have := h j i hj hi h1; omega
theorem rangeI_nodup (n : Nat) : (rangeI n).Nodup := by
  unfold rangeI List.Nodup
  rw [List.pairwise_map]
  exact List.pairwise_lt_range.imp (fun h => by omega)
theorem order_inj {O : List Int} {n i j : Nat} (h : O.Perm (rangeI n)) (hi : i < n) (hj : j < n) (e : O.getD i 0 = O.getD j 0) : i = j := by
  have hl : O.length = n := by rw [h.length_eq, rangeI_len]
  have hn : O.Nodup := h.symm.nodup (rangeI_nodup n)
  rw [List.getD_eq_getElem?_getD, List.getElem?_eq_getElem (by omega), List.getD_eq_getElem?_getD, List.getElem?_eq_getElem (by omega)] at e
  simp only [Option.getD_some] at e
  rw [List.Nodup, List.pairwise_iff_getElem] at hn
  rcases Nat.lt_trichotomy i j with h1 | h1 | h1
  · exact absurd e (hn i j (by omega) (by omega) h1)
  · exact h1
  · exact absurd e.symm (hn j i (by omega) (by omega) h1)
theorem pk_mem {ids O : List Int} {lo k : Nat} {x : Int} (h : x ∈ pk ids O lo k) : ∃ j, j < k ∧ x = ids.getD (O.getD (lo + j) 0).toNat 0 := by
  unfold pk at h
  obtain ⟨j, hj, rfl⟩ := List.mem_map.1 h
  exact ⟨j, List.mem_range.1 hj, rfl⟩
theorem pk_in {ids O : List Int} {lo k : Nat} (h : O.Perm (rangeI ids.length)) (hk : lo + k ≤ ids.length) {x : Int} (hx : x ∈ pk ids O lo k) : x ∈ ids := by
  obtain ⟨j, hj, rfl⟩ := pk_mem hx
  obtain ⟨o, _, ho, hlt⟩ := order_at (k := lo + j) h (by omega)
  rw [ho, Int.toNat_natCast, List.getD_eq_getElem?_getD, List.getElem?_eq_getElem hlt]
  exact List.getElem_mem hlt
theorem pk_eq {ids O : List Int} (hi : ids.Pairwise (· < ·)) (h : O.Perm (rangeI ids.length)) {i j : Nat} (h1 : i < ids.length) (h2 : j < ids.length) (e : ids.getD (O.getD i 0).toNat 0 = ids.getD (O.getD j 0).toNat 0) : i = j := by
  obtain ⟨o, _, ho, hlt⟩ := order_at h h1
  obtain ⟨p, _, hp, hlt2⟩ := order_at h h2
  rw [ho, hp, Int.toNat_natCast, Int.toNat_natCast] at e
  have := lt_get hi hlt hlt2 e
  exact order_inj h h1 h2 (by rw [ho, hp, this])
theorem pk_nodup {ids O : List Int} (hi : ids.Pairwise (· < ·)) (h : O.Perm (rangeI ids.length)) {lo k : Nat} (hk : lo + k ≤ ids.length) : (pk ids O lo k).Nodup := by
  unfold pk List.Nodup
  rw [List.pairwise_map]
  refine List.pairwise_lt_range.imp_of_mem (fun {a b} ha hb hab e => ?_)
  have h1 := List.mem_range.1 ha
  have h2 := List.mem_range.1 hb
  have := pk_eq hi h (i := lo + a) (j := lo + b) (by omega) (by omega) e
  omega
theorem sortI_lt {L : List Int} (h : L.Nodup) : (sortI L).Pairwise (· < ·) := by
  have h1 := sortI_le L
  have h2 : (sortI L).Nodup := (sortI_perm L).symm.nodup h
  exact (List.Pairwise.and h1 h2).imp (fun {a b} h => by obtain ⟨h1, h2⟩ := h; have : a ≠ b := h2; omega)
theorem rises_lt {L : List Int} (h : L.Pairwise (· < ·)) {i : Nat} {x y : Int} (hx : L[i]? = some x) (hy : L[i + 1]? = some y) : x < y := by
  obtain ⟨h1, rfl⟩ := List.getElem?_eq_some_iff.1 hx
  obtain ⟨h2, rfl⟩ := List.getElem?_eq_some_iff.1 hy
  rw [List.pairwise_iff_getElem] at h
  exact h i (i + 1) h1 h2 (by omega)
theorem ofE_ok {ids : List Int} {client size : Int} (h : ofE ids client size = 0) : eChk ids = 0 ∧ (rnd ids.length client size).2.2 = 0 := by
  unfold ofE at h
  split at h
  · exact ⟨by assumption, h⟩
  · exact absurd h (by assumption)
theorem ofE_place {ids : List Int} {client size : Int} (h : ofE ids client size = 0) (h2 : ¬ (ids.length : Int) ≤ size) : ∃ (z a : Nat), size = (z : Int) ∧ 1 ≤ z ∧ (rnd ids.length client size).2.1.toNat = a ∧ (rnd ids.length client size).2.1 = (a : Int) ∧ a * z + z ≤ ids.length := by
  obtain ⟨b1, b2, b3, b4, b5, b6, b7⟩ := rnd_big (ofE_ok h).2 h2
  refine ⟨size.toNat, (rnd ids.length client size).2.1.toNat, by omega, by omega, rfl, by omega, ?_⟩
  have hz : ((size.toNat : Nat) : Int) = size := by omega
  have ha : (((rnd ids.length client size).2.1.toNat : Nat) : Int) = (rnd ids.length client size).2.1 := by omega
  have : (((rnd ids.length client size).2.1.toNat * size.toNat + size.toNat : Nat) : Int) = (rnd ids.length client size).2.1 * size + size := by rw [Int.natCast_add, Int.natCast_mul, hz, ha]
  omega
theorem ofL_some {ids : List Int} {client size : Int} {seed : Nat} (h : ofE ids client size = 0) :
    (∀ x ∈ ofL ids client size seed, x ∈ ids) ∧ (ofL ids client size seed).Pairwise (· < ·) ∧ ((ofL ids client size seed).length : Int) = K.mn size ids.length := by
  obtain ⟨h1, h2⟩ := eChk_rise (ofE_ok h).1
  by_cases h3 : (ids.length : Int) ≤ size
  · unfold ofL; rw [if_pos h3]
    refine ⟨fun x hx => hx, h1, ?_⟩
    unfold K.mn; split <;> omega
  · obtain ⟨z, a, rfl, hz, ha, _, hl⟩ := ofE_place h h3
    unfold ofL; rw [if_neg h3, ha, Int.toNat_natCast]
    have hp := shuf_perm (intsN seed [(rnd ids.length client (z : Int)).1]) ids.length
    generalize (shuf (intsN seed [(rnd ids.length client (z : Int)).1]) ids.length).2 = O at *
    refine ⟨fun x hx => pk_in hp hl ((sortI_perm _).mem_iff.1 hx), sortI_lt (pk_nodup h1 hp hl), ?_⟩
    rw [sortI_len, pk_len]
    unfold K.mn; split <;> omega
/-- Two clients of one round share none. -/
theorem ofL_apart {ids : List Int} {a b size : Int} {seed : Nat} (ha : ofE ids a size = 0) (hb : ofE ids b size = 0) (h3 : ¬ (ids.length : Int) ≤ size) (hab : a ≠ b) (hr : (rnd ids.length a size).1 = (rnd ids.length b size).1) :
    ∀ x ∈ ofL ids a size seed, x ∉ ofL ids b size seed := by
  obtain ⟨h1, h2⟩ := eChk_rise (ofE_ok ha).1
  have hc : (rnd ids.length a size).2.1 ≠ (rnd ids.length b size).2.1 := by
    have e1 := rnd_1 (rnd_ok (ofE_ok ha).2) h3
    have e2 := rnd_1 (rnd_ok (ofE_ok hb).2) h3
    rw [e1, e2] at hr ⊢
    simp only at hr ⊢
    intro e
    have d1 := Int.mul_ediv_add_emod a (ids.length / size)
    have d2 := Int.mul_ediv_add_emod b (ids.length / size)
    rw [hr, e, d2] at d1
    exact hab d1.symm
  obtain ⟨z, p, rfl, hz, hp, hp2, hl⟩ := ofE_place ha h3
  obtain ⟨z2, q, hz2, _, hq, hq2, hl2⟩ := ofE_place hb h3
  obtain rfl : z = z2 := by omega
  have hpq : p ≠ q := by omega
  unfold ofL
  rw [if_neg h3, if_neg h3, hp, hq, Int.toNat_natCast, hr]
  have hO := shuf_perm (intsN seed [(rnd ids.length b (z : Int)).1]) ids.length
  generalize (shuf (intsN seed [(rnd ids.length b (z : Int)).1]) ids.length).2 = O at *
  intro x hx hy
  obtain ⟨i, hi, hxi⟩ := pk_mem ((sortI_perm _).mem_iff.1 hx)
  obtain ⟨j, hj, hyj⟩ := pk_mem ((sortI_perm _).mem_iff.1 hy)
  have e := pk_eq h1 hO (i := p * z + i) (j := q * z + j) (by omega) (by omega) (hxi.symm.trans hyj)
  rcases Nat.lt_or_gt_of_ne hpq with h | h
  · have : (p + 1) * z ≤ q * z := Nat.mul_le_mul_right z h
    rw [Nat.add_mul] at this; omega
  · have : (q + 1) * z ≤ p * z := Nat.mul_le_mul_right z h
    rw [Nat.add_mul] at this; omega
def hasB (xs : List Int) (n : Int) : Bool := Sl.anyOf (fun x => x == n) xs
theorem hasB_iff {xs : List Int} {n : Int} : hasB xs n = true ↔ n ∈ xs := by
  unfold hasB Sl.anyOf
  rw [List.any_eq_true]
  constructor
  · rintro ⟨x, hx, h⟩; have : x = n := by simpa using h
    exact this ▸ hx
  · intro h; exact ⟨n, h, by simp⟩
theorem hasB_f {xs : List Int} {n : Int} : hasB xs n = false ↔ n ∉ xs := by rw [← Bool.not_eq_true, hasB_iff]
end Go.Proofs.Ytpafbjffecpdmaa.Sb
