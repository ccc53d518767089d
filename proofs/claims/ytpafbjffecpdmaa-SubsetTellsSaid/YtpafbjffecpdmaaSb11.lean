/- Subset: what came and what went: the contract, the plain law. -/
import Derived.Test.YtpafbjffecpdmaaSb10
set_option linter.unusedVariables false
namespace Go.Proofs.Ytpafbjffecpdmaa.Sb
open Go.RowKit Go.Proofs.Ytpafbjffecpdmaa
attribute [local go_sem] K.max2_int K.min2_int K.max_two K.min_two K.max_three K.min_three
set_option linter.unusedSimpArgs false
/-! ### Compact of what rises -/
theorem getB {L : List Int} {i : Nat} (h : i < L.length) : L.toArray[i]! = L[i] := by
  rw [getElem!_pos L.toArray i (by simpa using h)]; simp
theorem compactUpTo_law {L : List Int} (hs : L.Pairwise (· ≤ ·)) : ∀ m, m ≤ L.length → (∀ x, x ∈ Lib.compactUpTo L.toArray m ↔ x ∈ L.take m) ∧ (Lib.compactUpTo L.toArray m).Pairwise (· < ·)
  | 0, _ => by simp [Lib.compactUpTo]
  | m + 1, h => by
    obtain ⟨h1, h2⟩ := compactUpTo_law hs m (by omega)
    have hm : L[m]? = some L[m] := List.getElem?_eq_getElem (by omega)
    rw [List.pairwise_iff_getElem] at hs
    rw [Lib.compactUpTo_succ, List.take_add_one, hm, Option.toList_some]
    have hle : ∀ x ∈ L.take m, x ≤ L[m] := fun x hx => by
      obtain ⟨i, hi, rfl⟩ := List.getElem_of_mem hx
      rw [List.length_take] at hi
      rw [List.getElem_take]
      exact hs i m (by omega) (by omega) (by omega)
    by_cases hk : Lib.keeps L.toArray m = true
    · rw [if_pos hk, getB (by omega)]
      refine ⟨fun x => by rw [List.mem_append, List.mem_append, h1], ?_⟩
      rw [List.pairwise_append]
      refine ⟨h2, by simp, fun a ha b hb => ?_⟩
      simp at hb; subst hb
      have ha2 := (h1 a).1 ha
      have hle2 := hle a ha2
      by_cases h0 : m = 0
      · subst h0; simp at ha2
      · unfold Lib.keeps at hk
        rw [decide_eq_true_eq] at hk
        rcases hk with hk | hk
        · exact absurd hk h0
        · rw [getB (by omega), getB (by omega)] at hk
          obtain ⟨i, hi, rfl⟩ := List.getElem_of_mem ha2
          rw [List.length_take] at hi
          rw [List.getElem_take] at hle2 ⊢
          by_cases him : i = m - 1
          · subst him; omega
          · have := hs i (m - 1) (by omega) (by omega) (by omega)
            have := hs (m - 1) m (by omega) (by omega) (by omega)
            omega
    · rw [if_neg hk, List.append_nil]
      have hk' : Lib.keeps L.toArray m = false := by simpa using hk
      unfold Lib.keeps at hk'
      rw [decide_eq_false_iff_not] at hk'
      have h0 : m ≠ 0 := fun e => hk' (.inl e)
      have he : L[m] = L[m - 1] := by
        have : ¬ L.toArray[m]! ≠ L.toArray[m - 1]! := fun e => hk' (.inr e)
        rw [getB (by omega), getB (by omega)] at this
        omega
      refine ⟨fun x => ?_, h2⟩
      rw [h1, List.mem_append]
      constructor
      · intro hx; exact .inl hx
      · rintro (hx | hx)
        · exact hx
        · simp at hx; subst hx; rw [he]
          exact List.mem_take_iff_getElem.2 ⟨m - 1, by omega, rfl⟩
theorem compact_law {L : List Int} (hs : L.Pairwise (· ≤ ·)) : (∀ x, x ∈ Lib.compact L ↔ x ∈ L) ∧ (Lib.compact L).Pairwise (· < ·) := by
  have := compactUpTo_law hs L.length (Nat.le_refl _)
  rw [List.take_length] at this
  exact this
/-- Which of l are not in M: each once, rising. -/
def woL (l M : List Int) : List Int := Lib.compact (sortI (l.filter fun x => !hasB M x))
theorem woL_mem {l M : List Int} {x : Int} : x ∈ woL l M ↔ x ∈ l ∧ x ∉ M := by
  unfold woL
  rw [(compact_law (sortI_le _)).1, (sortI_perm _).mem_iff, List.mem_filter, Bool.not_eq_true', hasB_f]
theorem woL_lt (l M : List Int) : (woL l M).Pairwise (· < ·) := (compact_law (sortI_le _)).2
theorem woL_nil (M : List Int) : woL [] M = [] := by
  rcases h : woL [] M with _ | ⟨x, r⟩
  · rfl
  · have : x ∈ woL [] M := by rw [h]; simp
    simp [woL_mem] at this
def OwnPost (w : World) (L : List Int) (e : Ending) (w' : World) : Prop := ∃ v, e = .returned v ∧ w'.ownsRow w.heap.size 3 1 v L.length (L.map iv) ∧ Below w.heap.size w w'
theorem delf_nil (A : Option Addr) (c : Nat) (fv : Value) (w : World) : Calls Try.prog 36 #[.slice A 0 c, fv] w fun e w' => e = .returned (.slice A 0 c) ∧ w' = w := by
  have HI : ∀ W, Calls Try.prog 48 #[.slice A 0 c, fv] W fun e w' => e = .returned (.int .i64 (-1)) ∧ w' = W := fun W => AnyE.slices_IndexFunc_empty Try.indexfunc A c fv W
  have GI := K.H.mk HI
  clear HI
  go_enter Try.func36, Try.ntmps36
  go_wp2_with (first | (go_at_call 48; (with_reducible refine (GI.out _).mono ?_); rintro e w' ⟨rfl, hw'⟩; have hw'2 := Eq.symm hw'; clear hw'; subst hw'2))
  go_ret
  exact ⟨rfl, rfl⟩
theorem compact_nil (A : Option Addr) (c : Nat) (w : World) : Calls Try.prog 41 #[.slice A 0 c] w fun e w' => e = .returned (.slice A 0 c) ∧ w' = w := by
  go_enter Try.func41, Try.ntmps41
  go_wp2
  go_ret
  exact ⟨rfl, rfl⟩
theorem sort_nil (A : Option Addr) (c : Nat) (w : World) : Calls Try.prog 40 #[.slice A 0 c] w fun e w' => e = .returned (.tuple #[]) ∧ w' = w := AnyG.slices_Sort_int_none Try.sort A c w
theorem SortA_c (L : List Int) (base g n cap : Nat) (w : World) (hown : w.ownsRow base 3 1 (.slice (some ⟨g, 0, none⟩) n cap) n (L.map iv)) (hsz : n < 4611686018427387904) :
    Calls Try.prog 40 #[.slice (some ⟨g, 0, none⟩) n cap] w fun e w' => e = .returned (.tuple #[]) ∧ w'.ownsRow base 3 1 (.slice (some ⟨g, 0, none⟩) n cap) n ((sortI L).map iv) ∧ w.grownBy w' (some g) := by
  by_cases h0 : n = 0
  · subst h0
    refine (sort_nil _ cap w).mono ?_
    rintro e w' ⟨rfl, rfl⟩
    have hl : L = [] := List.eq_nil_of_length_eq_zero (by have := hown.1; simpa using this)
    subst hl
    exact ⟨rfl, by simpa [sortI] using hown, K.o_refl _ _⟩
  · exact Sort_c L _ base n w hown (by omega) hsz
set_option maxRecDepth 100000 in
set_option maxHeartbeats 4000000 in
theorem without_nil (A A2 : Option Addr) (c n2 c2 : Nat) (w : World) : Calls Try.prog 28 #[.slice A 0 c, .slice A2 n2 c2] w (OwnPost w []) := by
  have GC := K.H.mk (fun (W : World) => clone_c [] A 0 c W (Sl.Rds.nil _ _ _) (fun u h => by cases h) (by omega))
  go_enter Try.func28, Try.ntmps28
  go_wp2_with (first
    | (go_at_call 37; (with_reducible refine (GC.out _).mono ?_); rintro e W2 ⟨⟨v2, rfl, hown2⟩, hb2⟩; obtain ⟨B2, d2, rfl, hR2⟩ := Sl.Rds.of_own hown2; obtain ⟨hB2, hC2, hF2, hZ2⟩ := K.bel_facts hb2; clear hb2)
    | (go_at_call 36; (with_reducible refine (delf_nil _ _ _ _).mono ?_); rintro e w' ⟨rfl, hw'⟩; have hw'2 := Eq.symm hw'; clear hw'; subst hw'2)
    | (go_at_call 40; (with_reducible refine (sort_nil _ _ _).mono ?_); rintro e w' ⟨rfl, hw'⟩; have hw'2 := Eq.symm hw'; clear hw'; subst hw'2)
    | (go_at_call 41; (with_reducible refine (compact_nil _ _ _).mono ?_); rintro e w' ⟨rfl, hw'⟩; have hw'2 := Eq.symm hw'; clear hw'; subst hw'2))
  go_ret
  exact ⟨_, rfl, Sl.own_low hown2 (by simp), (by repeat (first | (with_reducible exact Below.refl _ _) | (with_reducible refine K.b_bel ?_ (by assumption)) | (with_reducible refine K.b_alloc ?_ _) | (with_reducible refine K.b_drewN ?_ _) | (with_reducible refine K.b_drew ?_) | (with_reducible refine K.b_set ?_ (by first | omega | (simp <;> omega)) _) | (with_reducible refine K.b_only ?_ (by assumption) (by first | omega | (simp <;> omega)))))⟩
set_option maxRecDepth 100000 in
set_option maxHeartbeats 4000000 in
theorem without_c (l M : List Int) (A A2 : Option Addr) (n c n2 c2 : Nat) (w : World) (hr : Sl.Rds w 1 A n (l.flatMap fun n => [.int .i64 n])) (hr2 : Sl.Rds w 1 A2 n2 (M.flatMap fun n => [.int .i64 n])) (hn : n * 8 ≤ 140737488355328) :
    Calls Try.prog 28 #[.slice A n c, .slice A2 n2 c2] w (OwnPost w (woL l M)) := by
  by_cases h0 : n = 0
  · subst h0
    have hl : l = [] := List.eq_nil_of_length_eq_zero (by have := hr.len; rw [flat_iv] at this; simpa using this)
    subst hl
    rw [woL_nil]
    exact without_nil A A2 c n2 c2 w
  obtain rfl := hr.length (fun _ => rfl) (by omega)
  have GC := K.H.mk (fun (W : World) (hb : Below w.heap.size w W) => clone_c (l.flatMap fun n => [.int .i64 n]) A l.length c W (hr.below hb) (one_ints l) hn)
  have Hr2 := K.H.mk hr2
  have HW := K.H.mk (show woL l M = Lib.compact (sortI (l.filter fun x => !hasB M x)) from rfl)
  have hfl : (l.filter fun x => !hasB M x).length ≤ l.length := List.length_filter_le _ _
  have hsl := sortI_len (l.filter fun x => !hasB M x)
  have GD := K.H.mk (fun (W : World) (base g cap : Nat) h1 h2 h3 h4 h5 => DelF_c l M base g l.length cap w.heap.size A2 n2 c2 W h1 h2 h3 h4 h5 (by omega))
  have GT := K.H.mk (fun (W : World) (base g cap : Nat) h1 => SortA_c (l.filter fun x => !hasB M x) base g (l.filter fun x => !hasB M x).length cap W h1 (by omega))
  have GK := K.H.mk (fun (W : World) (base g cap : Nat) h1 => Compact_c (sortI (l.filter fun x => !hasB M x)) base g (l.filter fun x => !hasB M x).length cap W h1 (by omega))
  generalize woL l M = X at *
  generalize Lib.compact (sortI (l.filter fun x => !hasB M x)) = Y at *
  generalize sortI (l.filter fun x => !hasB M x) = Z at *
  generalize (l.filter fun x => !hasB M x) = F at *
  clear hr hr2
  
  
  go_enter Try.func28, Try.ntmps28
  go_wp2_with (first
    | (go_at_call 37; (with_reducible refine (GC.out _ (by repeat (first | (with_reducible exact Below.refl _ _) | (with_reducible refine K.b_bel ?_ (by assumption)) | (with_reducible refine K.b_alloc ?_ _) | (with_reducible refine K.b_drewN ?_ _) | (with_reducible refine K.b_drew ?_) | (with_reducible refine K.b_set ?_ (by first | omega | (simp <;> omega)) _) | (with_reducible refine K.b_only ?_ (by assumption) (by first | omega | (simp <;> omega)))))).mono ?_); rintro e W2 ⟨⟨v2, rfl, hown2⟩, hb2⟩; rw [flat_iv] at hown2; obtain ⟨g2, cap2, rfl, hbg2, hbl2⟩ := own_form hown2 (by omega); obtain ⟨hB2, hC2, hF2, hZ2⟩ := K.bel_facts hb2; clear hb2; have kN2 : K.At W2 w.heap.size 22 #[.slice A2 n2 c2] := (by refine K.At.cast (by repeat (first | (with_reducible refine K.At.new' _ _ _ _ (by first | rfl | (simp; done) | omega)) | (with_reducible apply K.At.over hB2) | (with_reducible apply K.At.set) | (with_reducible apply K.At.alloc) | (with_reducible apply K.At.drewN) | (with_reducible apply K.At.drew) | (with_reducible apply K.At.far) | omega | (simp <;> omega))) ?_; rfl); obtain ⟨hc_kN2, hf_kN2, hl_kN2⟩ := K.At.facts kN2; have hbg3 : w.heap.size < g2 := (by simp at hbg2; omega); have hRm : Sl.Rds W2 1 A2 n2 (M.flatMap fun n => [.int .i64 n]) := (Hr2.out.below (by repeat (first | (with_reducible exact Below.refl _ _) | (with_reducible refine K.b_bel ?_ (by assumption)) | (with_reducible refine K.b_alloc ?_ _) | (with_reducible refine K.b_drewN ?_ _) | (with_reducible refine K.b_drew ?_) | (with_reducible refine K.b_set ?_ (by first | omega | (simp <;> omega)) _) | (with_reducible refine K.b_only ?_ (by assumption) (by first | omega | (simp <;> omega)))))); have hgn : w.heap.size ≠ g2 := (by omega); have hga : 0 < n2 → ∀ b off, A2 = some ⟨b, off, none⟩ → b ≠ g2 := (fun h0 b off e => by obtain ⟨b3, off3, e3, hl3, _⟩ := Hr2.out.at_ h0; rw [e] at e3; cases e3; omega))
    | (go_at_call 36; (with_reducible refine (GD.out _ _ _ _ hown2 kN2 hRm hgn hga).mono ?_); rintro e W3 ⟨rfl, hown3, hgr3⟩; have hO3 := K.Only.mk hgr3; clear hgr3)
    | (go_at_call 40; (with_reducible refine (GT.out _ _ _ _ hown3).mono ?_); rintro e W4 ⟨rfl, hown4, hgr4⟩; have hO4 := K.Only.mk hgr4; clear hgr4)
    | (go_at_call 41; (with_reducible refine (GK.out _ _ _ _ hown4).mono ?_); rintro e W5 ⟨rfl, hown5, hgr5⟩; have hO5 := K.Only.mk hgr5; clear hgr5))
  go_ret
  rw [HW.out]
  exact ⟨_, rfl, Sl.own_low hown5 (by simp), (by repeat (first | (with_reducible exact Below.refl _ _) | (with_reducible refine K.b_bel ?_ (by assumption)) | (with_reducible refine K.b_alloc ?_ _) | (with_reducible refine K.b_drewN ?_ _) | (with_reducible refine K.b_drew ?_) | (with_reducible refine K.b_set ?_ (by first | omega | (simp <;> omega)) _) | (with_reducible refine K.b_only ?_ (by assumption) (by first | omega | (simp <;> omega)))))⟩
set_option maxRecDepth 100000 in
set_option maxHeartbeats 4000000 in
theorem Change_c (l M : List Int) (A A2 : Option Addr) (n c n2 c2 : Nat) (w : World) (hr : Sl.Rds w 1 A n (l.flatMap fun n => [.int .i64 n])) (hr2 : Sl.Rds w 1 A2 n2 (M.flatMap fun n => [.int .i64 n])) (hn : n * 8 ≤ 140737488355328) (hn2 : n2 * 8 ≤ 140737488355328) :
    Calls Try.prog 18 #[.slice A n c, .slice A2 n2 c2] w fun e w' => ∃ v u, e = .returned (.tuple #[v, u]) ∧ w'.ownsRow w.heap.size 3 1 v (woL M l).length ((woL M l).map iv) ∧ w'.ownsRow w.heap.size 3 1 u (woL l M).length ((woL l M).map iv) ∧ Below w.heap.size w w' := by
  have G1 := K.H.mk (fun (W : World) (hb : Below w.heap.size w W) => without_c M l A2 A n2 c2 n c W (hr2.below hb) (hr.below hb) hn2)
  have G2 := K.H.mk (fun (W : World) (hb : Below w.heap.size w W) => without_c l M A A2 n c n2 c2 W (hr.below hb) (hr2.below hb) hn)
  generalize woL M l = X at *
  generalize woL l M = Y at *
  clear hr hr2
  go_enter Try.func18, Try.ntmps18
  go_wp2_with (first
    | (go_at_call 28; first
      | ((with_reducible refine (G1.out _ (by repeat (first | (with_reducible exact Below.refl _ _) | (with_reducible refine K.b_bel ?_ (by assumption)) | (with_reducible refine K.b_alloc ?_ _) | (with_reducible refine K.b_drewN ?_ _) | (with_reducible refine K.b_drew ?_) | (with_reducible refine K.b_set ?_ (by first | omega | (simp <;> omega)) _) | (with_reducible refine K.b_only ?_ (by assumption) (by first | omega | (simp <;> omega)))))).mono ?_); rintro e W2 ⟨v2, rfl, hown2, hb2⟩; obtain ⟨hB2, hC2, hF2, hZ2⟩ := K.bel_facts hb2; clear hb2)
      | ((with_reducible refine (G2.out _ (by repeat (first | (with_reducible exact Below.refl _ _) | (with_reducible refine K.b_bel ?_ (by assumption)) | (with_reducible refine K.b_alloc ?_ _) | (with_reducible refine K.b_drewN ?_ _) | (with_reducible refine K.b_drew ?_) | (with_reducible refine K.b_set ?_ (by first | omega | (simp <;> omega)) _) | (with_reducible refine K.b_only ?_ (by assumption) (by first | omega | (simp <;> omega)))))).mono ?_); rintro e W3 ⟨v3, rfl, hown3, hb3⟩; obtain ⟨hB3, hC3, hF3, hZ3⟩ := K.bel_facts hb3; clear hb3)))
  go_ret2
  exact ⟨v2, v3, rfl, Sl.own_over hown2 hB3, Sl.own_low hown3 hZ2, (by repeat (first | (with_reducible exact Below.refl _ _) | (with_reducible refine K.b_bel ?_ (by assumption)) | (with_reducible refine K.b_alloc ?_ _) | (with_reducible refine K.b_drewN ?_ _) | (with_reducible refine K.b_drew ?_) | (with_reducible refine K.b_set ?_ (by first | omega | (simp <;> omega)) _) | (with_reducible refine K.b_only ?_ (by assumption) (by first | omega | (simp <;> omega)))))⟩
end Go.Proofs.Ytpafbjffecpdmaa.Sb
