/- Subset: the reference's has and Change. -/
import Derived.Test.YtpafbjffecpdmaaSb21
import Derived.Test.YtpafbjffecpdmaaSb12
set_option linter.unusedVariables false
namespace Go.Proofs.Ytpafbjffecpdmaa.Sb
open Go.RowKit Go.Proofs.Ytpafbjffecpdmaa
attribute [local go_sem] K.max2_int K.min2_int K.max_two K.min_two K.max_three K.min_three
set_option linter.unusedSimpArgs false
set_option maxRecDepth 100000 in
set_option maxHeartbeats 2000000 in
theorem rhas_c (xs : List Int) (y : Int) (A : Option Addr) (n c : Nat) (w : World) (hr : Sl.Rds w 1 A n (xs.flatMap fun n => [.int .i64 n])) :
    Calls Try.prog 29 #[.slice A n c, .int .i64 y] w fun e w' => e = .returned (.bool (hasB xs y)) ∧ w' = w := by
  obtain rfl := hr.length (fun _ => rfl) (by omega)
  have hle := hr.le
  have Hr := K.H.mk hr
  obtain ⟨R, hR⟩ : ∃ R, R = hasB xs y := ⟨_, rfl⟩
  have HR := K.H.mk hR
  rw [← hR]
  clear hr hR
  go_enter Try.func29, Try.ntmps29
  go_wp2
  go_loop [5] (fun i => ∃ k : Nat, k ≤ xs.length ∧ i = .int .i64 k ∧ K.H (∀ j z, j < k → xs[j]? = some z → z ≠ y)) (fun i => xs.length - (intOf i).toNat)
  case atStart => exact ⟨0, by omega, rfl, ⟨fun j z h => by omega⟩⟩
  case round =>
    obtain ⟨k, hk, rfl, Hf⟩ := hrel
    by_cases hlt : k < xs.length
    · obtain ⟨x, hx⟩ : ∃ x, xs[k]? = some x := ⟨_, List.getElem?_eq_getElem hlt⟩
      obtain ⟨b, off, rfl, hbl, hbc⟩ := Sl.Rds.elem Hr.out (enc := fun n => [.int .i64 n]) (fun _ => rfl) (by omega) hx
      have q_0 : w.cell? ⟨b, off + k, none⟩ = some (.int .i64 x) := by
        have := ((Below.refl _ _ : Below w.heap.size w w).cell (p := ⟨b, off + k * 1 + 0, none⟩) hbl).trans (hbc 0 (by omega))
        simpa using this
      have Hx := K.H.mk hx
      clear hx hbc
      cases hc : (x == y)
      · have Hc := K.H.mk hc
        go_wp2
        go_round
        case rel =>
          refine ⟨k + 1, by omega, by go_num, ⟨fun j z hj hz => ?_⟩⟩
          by_cases hjk : j = k
          · subst hjk; rw [Hx.out] at hz; cases hz; simpa using Hc.out
          · exact Hf.out j z (by omega) hz
        case measure => simp [intOf]; omega
      · have HN := K.H.mk (show R = true by rw [HR.out, hasB_iff]; have : x = y := by simpa using hc
                                            exact this ▸ List.mem_of_getElem? Hx.out)
        go_wp2
        go_ret
        exact ⟨K.ret_bool HN.out.symm, rfl⟩
    · obtain rfl : k = xs.length := by omega
      have HN := K.H.mk (show R = false by
        rw [HR.out, hasB_f]; intro hm
        obtain ⟨j, hj⟩ := List.getElem?_of_mem hm
        exact Hf.out j y (List.getElem?_eq_some_iff.1 hj).1 hj rfl)
      go_wp2
      go_ret
      exact ⟨K.ret_bool HN.out.symm, rfl⟩
def addN (old more : List Int) (x : Int) : List Int := if (!hasB old x && !hasB more x) = true then more ++ [x] else more
def newL (old M : List Int) : List Int := M.foldl (addN old) []
theorem newL_take {old M : List Int} {k : Nat} {x : Int} (h : M[k]? = some x) : newL old (M.take (k + 1)) = addN old (newL old (M.take k)) x := by
  unfold newL
  rw [List.take_add_one, h, Option.toList_some, List.foldl_append, List.foldl_cons, List.foldl_nil]
theorem addN_nodup {old more : List Int} {x : Int} (h : more.Nodup) : (addN old more x).Nodup := by
  unfold addN
  split
  · rename_i hc
    rw [Bool.and_eq_true, Bool.not_eq_true', Bool.not_eq_true', hasB_f, hasB_f] at hc
    rw [List.nodup_append]
    refine ⟨h, by simp, ?_⟩
    intro a ha b hb
    simp at hb
    subst hb
    intro e; subst e; exact hc.2 ha
  · exact h
theorem addN_mem {old more : List Int} {x y : Int} (h : ∀ z ∈ more, z ∉ old) : y ∈ addN old more x ↔ y ∈ more ∨ (y = x ∧ x ∉ old) := by
  unfold addN
  split
  · rename_i hc
    rw [Bool.and_eq_true, Bool.not_eq_true', Bool.not_eq_true', hasB_f, hasB_f] at hc
    simp [hc.1]
  · rename_i hc
    rw [Bool.and_eq_true, Bool.not_eq_true', Bool.not_eq_true', hasB_f, hasB_f] at hc
    refine ⟨.inl, ?_⟩
    rintro (h1 | ⟨rfl, h1⟩)
    · exact h1
    · exact Classical.byContradiction fun h2 => hc ⟨h1, h2⟩
theorem fold_law (old : List Int) : ∀ (M X : List Int), X.Nodup → (∀ z ∈ X, z ∉ old) → (M.foldl (addN old) X).Nodup ∧ ∀ y, y ∈ M.foldl (addN old) X ↔ y ∈ X ∨ (y ∈ M ∧ y ∉ old)
  | [], X, h1, h2 => by simp [h1]
  | x :: r, X, h1, h2 => by
    rw [List.foldl_cons]
    have h3 : ∀ z ∈ addN old X x, z ∉ old := by
      intro z hz
      rw [addN_mem h2] at hz
      rcases hz with hz | ⟨rfl, hz⟩
      · exact h2 z hz
      · exact hz
    obtain ⟨h4, h5⟩ := fold_law old r _ (addN_nodup (x := x) h1) h3
    refine ⟨h4, fun y => ?_⟩
    rw [h5, addN_mem h2, List.mem_cons]
    constructor
    · rintro ((h | ⟨rfl, h⟩) | ⟨h, h'⟩)
      · exact .inl h
      · exact .inr ⟨.inl rfl, h⟩
      · exact .inr ⟨.inr h, h'⟩
    · rintro (h | ⟨rfl | h, h'⟩)
      · exact .inl (.inl h)
      · exact .inl (.inr ⟨rfl, h'⟩)
      · exact .inr ⟨h, h'⟩
theorem newL_sort (old M : List Int) : sortI (newL old M) = woL M old := by
  obtain ⟨h1, h2⟩ := fold_law old M [] (by simp) (by simp)
  have h3 := woL_lt M old
  apply sortI_eq
  · refine (List.perm_ext_iff_of_nodup (h3.imp (fun h => by omega)) h1).2 fun y => ?_
    rw [woL_mem]
    have := h2 y
    simp at this
    exact this.symm
  · exact h3.imp (fun h => by omega)
set_option maxRecDepth 100000 in
set_option maxHeartbeats 8000000 in
theorem rChange_c (l M : List Int) (A A2 : Option Addr) (n c n2 c2 : Nat) (w : World) (hr : Sl.Rds w 1 A n (l.flatMap fun n => [.int .i64 n])) (hr2 : Sl.Rds w 1 A2 n2 (M.flatMap fun n => [.int .i64 n])) (hn : n * 8 ≤ 140737488355328) (hn2 : n2 * 8 ≤ 140737488355328) :
    Calls Try.prog 21 #[.slice A n c, .slice A2 n2 c2] w fun e w' => ∃ v u, e = .returned (.tuple #[v, u]) ∧ w'.ownsRow w.heap.size 3 1 v (woL M l).length ((woL M l).map iv) ∧ w'.ownsRow w.heap.size 3 1 u (woL l M).length ((woL l M).map iv) ∧ Below w.heap.size w w' := by
  obtain rfl := hr.length (fun _ => rfl) (by omega)
  obtain rfl := hr2.length (fun _ => rfl) (by omega)
  have hle := hr.le
  have hle2 := hr2.le
  have Hr := K.H.mk hr
  have Hr2 := K.H.mk hr2
  have H0 := K.H.mk (Below.refl w.heap.size w)
  clear hr hr2
  go_enter Try.func21, Try.ntmps21
  go_wp2
  go_loopw [6, 8] (fun v i wr => ∃ k m : Nat, k ≤ M.length ∧ m ≤ k ∧ i = .int .i64 k ∧ wr.ownsRow w.heap.size 3 1 v m ((newL l (M.take k)).map iv) ∧ K.H (Below w.heap.size w wr)) (fun _ i _ => M.length - (intOf i).toNat)
  case atStart => exact ⟨0, 0, by omega, by omega, rfl, World.ownsRow_nil _ _ _ _, ⟨Below.refl _ _⟩⟩
  case round =>
    obtain ⟨k, m, hk, hm, rfl, hown, Hb⟩ := hrel
    have hsz := Hb.out.size
    have Hw := K.H.mk (H0.out.trans (Hb.out.mono H0.out.size))
    by_cases hlt : k < M.length
    · obtain ⟨x, hx⟩ : ∃ x, M[k]? = some x := ⟨_, List.getElem?_eq_getElem hlt⟩
      have HT := K.H.mk (newL_take (old := l) hx)
      obtain ⟨A1, c1, rfl, hnc, hcm, hR1⟩ := Sl.Rds.of_own2 hown
      have hml : (newL l (M.take k)).length = m := by have := hown.1; simpa using this
      generalize newL l (M.take k) = X at *
      rw [← flat_iv] at hR1
      have G1 := K.H.mk (fun (W : World) (hb : Below w.heap.size w W) => rhas_c l x A l.length c W (Hr.out.below hb))
      have G2 := K.H.mk (fun (W : World) (hb : Below wr.heap.size wr W) => rhas_c X x A1 m c1 W (hR1.below hb))
      obtain ⟨b, off, rfl, hbl, hbc⟩ := Sl.Rds.elem Hr2.out (enc := fun n => [.int .i64 n]) (fun _ => rfl) (by omega) hx
      have q_0 : wr.cell? ⟨b, off + k, none⟩ = some (.int .i64 x) := by
        have := (Hw.out.cell (p := ⟨b, off + k * 1 + 0, none⟩) hbl).trans (hbc 0 (by omega))
        simpa using this
      have hbw : b < wr.heap.size := Nat.lt_of_lt_of_le hbl Hw.out.size
      have hkl : (k : Int) < (M.length : Int) := by omega
      clear hx hbc hnc hcm hR1
      cases hp : hasB l x
      · rw [hp] at G1
        cases hq : hasB X x
        · rw [hq] at G2
          have HN := K.H.mk (show newL l (M.take (k + 1)) = X ++ [x] by rw [HT.out]; unfold addN; rw [hp, hq]; rfl)
          clear hp hq HT
          go_wp2_with (first | (go_at_call 29; first | (go_at_call 29; (with_reducible refine (G1.out _ (by repeat (first | (with_reducible exact Below.refl _ _) | (with_reducible exact Hw.out) | (with_reducible refine K.b_bel ?_ (by assumption)) | (with_reducible refine K.b_alloc ?_ _) | (with_reducible refine K.b_drewN ?_ _) | (with_reducible refine K.b_drew ?_) | (with_reducible refine K.b_set ?_ (by first | omega | (simp <;> omega)) _) | (with_reducible refine K.b_only ?_ (by assumption) (by first | omega | (simp <;> omega)))))).mono ?_); rintro e w' ⟨rfl, hw'⟩; have hw'2 := Eq.symm hw'; clear hw'; subst hw'2) | (go_at_call 29; (with_reducible refine (G2.out _ (by repeat (first | (with_reducible exact Below.refl _ _) | (with_reducible refine K.b_bel ?_ (by assumption)) | (with_reducible refine K.b_alloc ?_ _) | (with_reducible refine K.b_drewN ?_ _) | (with_reducible refine K.b_drew ?_) | (with_reducible refine K.b_set ?_ (by first | omega | (simp <;> omega)) _) | (with_reducible refine K.b_only ?_ (by assumption) (by first | omega | (simp <;> omega)))))).mono ?_); rintro e w' ⟨rfl, hw'⟩; have hw'2 := Eq.symm hw'; clear hw'; subst hw'2)) | (at_builtin; refine Sl.app1 (news := [iv x]) rfl _ _ 22 3 (.int .i64 0) rfl Try.underlying22 (by kernel_rfl : (Try.prog.info? 3).map (fun i => (i.zero, i.size, i.bytes)) = some (some (.int .i64 0), 1, 8)) rfl (by decide) (by decide) rfl ((hown).alloc _) rfl rfl (Sl.new_cells _ _ _ _ (by first | rfl | simp)) (by simp [Value.oneCell']) (by omega) (by simp <;> omega) ?_; intro v8 W8 hown8 hgr8))
          go_roundw
          case rel =>
            refine ⟨k + 1, m + 1, by omega, by omega, by go_num, by rw [HN.out]; simpa using hown8, ⟨?_⟩⟩
            exact Sl.below_grown (K.b_alloc Hb.out _) hgr8 (fun k hk => Sl.own_base hown k hk)
          case measure => simp [intOf]; omega
        · rw [hq] at G2
          have HN := K.H.mk (show newL l (M.take (k + 1)) = X by rw [HT.out]; unfold addN; rw [hp, hq]; rfl)
          clear hp hq HT
          go_wp2_with (first | (go_at_call 29; first | (go_at_call 29; (with_reducible refine (G1.out _ (by repeat (first | (with_reducible exact Below.refl _ _) | (with_reducible exact Hw.out) | (with_reducible refine K.b_bel ?_ (by assumption)) | (with_reducible refine K.b_alloc ?_ _) | (with_reducible refine K.b_drewN ?_ _) | (with_reducible refine K.b_drew ?_) | (with_reducible refine K.b_set ?_ (by first | omega | (simp <;> omega)) _) | (with_reducible refine K.b_only ?_ (by assumption) (by first | omega | (simp <;> omega)))))).mono ?_); rintro e w' ⟨rfl, hw'⟩; have hw'2 := Eq.symm hw'; clear hw'; subst hw'2) | (go_at_call 29; (with_reducible refine (G2.out _ (by repeat (first | (with_reducible exact Below.refl _ _) | (with_reducible refine K.b_bel ?_ (by assumption)) | (with_reducible refine K.b_alloc ?_ _) | (with_reducible refine K.b_drewN ?_ _) | (with_reducible refine K.b_drew ?_) | (with_reducible refine K.b_set ?_ (by first | omega | (simp <;> omega)) _) | (with_reducible refine K.b_only ?_ (by assumption) (by first | omega | (simp <;> omega)))))).mono ?_); rintro e w' ⟨rfl, hw'⟩; have hw'2 := Eq.symm hw'; clear hw'; subst hw'2)))
          go_roundw
          case rel => exact ⟨k + 1, m, by omega, by omega, by go_num, by rw [HN.out]; exact hown, Hb⟩
          case measure => simp [intOf]; omega
      · rw [hp] at G1
        have HN := K.H.mk (show newL l (M.take (k + 1)) = X by rw [HT.out]; unfold addN; rw [hp]; rfl)
        clear hp HT
        go_wp2_with (first | (go_at_call 29; first | (go_at_call 29; (with_reducible refine (G1.out _ (by repeat (first | (with_reducible exact Below.refl _ _) | (with_reducible exact Hw.out) | (with_reducible refine K.b_bel ?_ (by assumption)) | (with_reducible refine K.b_alloc ?_ _) | (with_reducible refine K.b_drewN ?_ _) | (with_reducible refine K.b_drew ?_) | (with_reducible refine K.b_set ?_ (by first | omega | (simp <;> omega)) _) | (with_reducible refine K.b_only ?_ (by assumption) (by first | omega | (simp <;> omega)))))).mono ?_); rintro e w' ⟨rfl, hw'⟩; have hw'2 := Eq.symm hw'; clear hw'; subst hw'2)))
        go_roundw
        case rel => exact ⟨k + 1, m, by omega, by omega, by go_num, by rw [HN.out]; exact hown, Hb⟩
        case measure => simp [intOf]; omega
    · obtain rfl : k = M.length := by omega
      rw [List.take_length] at hown

      obtain ⟨A6, c6, rfl, hnc, hcm, hR6⟩ := Sl.Rds.of_own2 hown
      rw [← flat_iv] at hR6
      have HR6 := K.H.mk hR6
      obtain ⟨m6, hm6, hm7⟩ : ∃ m6, m6 = m ∧ m6 ≤ M.length := ⟨m, rfl, hm⟩
      have hW6 := Hw
      rw [← hm6] at HR6 ⊢
      clear hown hnc hcm hR6 hsz Hb Hw hlt hk hm hm6
      obtain ⟨W6, hE⟩ : ∃ W6, W6 = wr := ⟨_, rfl⟩
      rw [← hE] at HR6 hW6 ⊢
      clear hE
      go_wp2

      go_loopw [7, 9] (fun v i wr => ∃ k m : Nat, k ≤ l.length ∧ m ≤ k ∧ i = .int .i64 k ∧ wr.ownsRow W6.heap.size 3 1 v m ((newL M (l.take k)).map iv) ∧ K.H (Below W6.heap.size W6 wr)) (fun _ i _ => l.length - (intOf i).toNat)
      case atStart => exact ⟨0, 0, by omega, by omega, rfl, World.ownsRow_nil _ _ _ _, ⟨Below.refl _ _⟩⟩
      case round =>
        obtain ⟨k, m, hk, hm, rfl, hown, Hb⟩ := hrel
        have hsz := Hb.out.size
        have Hw := K.H.mk (hW6.out.trans (Hb.out.mono hW6.out.size))
        by_cases hlt : k < l.length
        · obtain ⟨x, hx⟩ : ∃ x, l[k]? = some x := ⟨_, List.getElem?_eq_getElem hlt⟩
          have HT := K.H.mk (newL_take (old := M) hx)
          obtain ⟨A1, c1, rfl, hnc, hcm, hR1⟩ := Sl.Rds.of_own2 hown
          have hml : (newL M (l.take k)).length = m := by have := hown.1; simpa using this
          generalize newL M (l.take k) = X at *
          rw [← flat_iv] at hR1
          have G1 := K.H.mk (fun (W : World) (hb : Below w.heap.size w W) => rhas_c M x A2 M.length c2 W (Hr2.out.below hb))
          have G2 := K.H.mk (fun (W : World) (hb : Below wr.heap.size wr W) => rhas_c X x A1 m c1 W (hR1.below hb))
          obtain ⟨b, off, rfl, hbl, hbc⟩ := Sl.Rds.elem Hr.out (enc := fun n => [.int .i64 n]) (fun _ => rfl) (by omega) hx
          have q_0 : wr.cell? ⟨b, off + k, none⟩ = some (.int .i64 x) := by
            have := (Hw.out.cell (p := ⟨b, off + k * 1 + 0, none⟩) hbl).trans (hbc 0 (by omega))
            simpa using this
          have hbw : b < wr.heap.size := Nat.lt_of_lt_of_le hbl Hw.out.size
          have hkl : (k : Int) < (l.length : Int) := by omega
          clear hx hbc hnc hcm hR1
          cases hp : hasB M x
          · rw [hp] at G1
            cases hq : hasB X x
            · rw [hq] at G2
              have HN := K.H.mk (show newL M (l.take (k + 1)) = X ++ [x] by rw [HT.out]; unfold addN; rw [hp, hq]; rfl)
              clear hp hq HT
              go_wp2_with (first | (go_at_call 29; first | (go_at_call 29; (with_reducible refine (G1.out _ (by repeat (first | (with_reducible exact Below.refl _ _) | (with_reducible exact Hw.out) | (with_reducible refine K.b_bel ?_ (by assumption)) | (with_reducible refine K.b_alloc ?_ _) | (with_reducible refine K.b_drewN ?_ _) | (with_reducible refine K.b_drew ?_) | (with_reducible refine K.b_set ?_ (by first | omega | (simp <;> omega)) _) | (with_reducible refine K.b_only ?_ (by assumption) (by first | omega | (simp <;> omega)))))).mono ?_); rintro e w' ⟨rfl, hw'⟩; have hw'2 := Eq.symm hw'; clear hw'; subst hw'2) | (go_at_call 29; (with_reducible refine (G2.out _ (by repeat (first | (with_reducible exact Below.refl _ _) | (with_reducible refine K.b_bel ?_ (by assumption)) | (with_reducible refine K.b_alloc ?_ _) | (with_reducible refine K.b_drewN ?_ _) | (with_reducible refine K.b_drew ?_) | (with_reducible refine K.b_set ?_ (by first | omega | (simp <;> omega)) _) | (with_reducible refine K.b_only ?_ (by assumption) (by first | omega | (simp <;> omega)))))).mono ?_); rintro e w' ⟨rfl, hw'⟩; have hw'2 := Eq.symm hw'; clear hw'; subst hw'2)) | (at_builtin; refine Sl.app1 (news := [iv x]) rfl _ _ 22 3 (.int .i64 0) rfl Try.underlying22 (by kernel_rfl : (Try.prog.info? 3).map (fun i => (i.zero, i.size, i.bytes)) = some (some (.int .i64 0), 1, 8)) rfl (by decide) (by decide) rfl ((hown).alloc _) rfl rfl (Sl.new_cells _ _ _ _ (by first | rfl | simp)) (by simp [Value.oneCell']) (by omega) (by simp <;> omega) ?_; intro v8 W8 hown8 hgr8))
              go_roundw
              case rel =>
                refine ⟨k + 1, m + 1, by omega, by omega, by go_num, by rw [HN.out]; simpa using hown8, ⟨?_⟩⟩
                exact Sl.below_grown (K.b_alloc Hb.out _) hgr8 (fun k hk => Sl.own_base hown k hk)
              case measure => simp [intOf]; omega
            · rw [hq] at G2
              have HN := K.H.mk (show newL M (l.take (k + 1)) = X by rw [HT.out]; unfold addN; rw [hp, hq]; rfl)
              clear hp hq HT
              go_wp2_with (first | (go_at_call 29; first | (go_at_call 29; (with_reducible refine (G1.out _ (by repeat (first | (with_reducible exact Below.refl _ _) | (with_reducible exact Hw.out) | (with_reducible refine K.b_bel ?_ (by assumption)) | (with_reducible refine K.b_alloc ?_ _) | (with_reducible refine K.b_drewN ?_ _) | (with_reducible refine K.b_drew ?_) | (with_reducible refine K.b_set ?_ (by first | omega | (simp <;> omega)) _) | (with_reducible refine K.b_only ?_ (by assumption) (by first | omega | (simp <;> omega)))))).mono ?_); rintro e w' ⟨rfl, hw'⟩; have hw'2 := Eq.symm hw'; clear hw'; subst hw'2) | (go_at_call 29; (with_reducible refine (G2.out _ (by repeat (first | (with_reducible exact Below.refl _ _) | (with_reducible refine K.b_bel ?_ (by assumption)) | (with_reducible refine K.b_alloc ?_ _) | (with_reducible refine K.b_drewN ?_ _) | (with_reducible refine K.b_drew ?_) | (with_reducible refine K.b_set ?_ (by first | omega | (simp <;> omega)) _) | (with_reducible refine K.b_only ?_ (by assumption) (by first | omega | (simp <;> omega)))))).mono ?_); rintro e w' ⟨rfl, hw'⟩; have hw'2 := Eq.symm hw'; clear hw'; subst hw'2)))
              go_roundw
              case rel => exact ⟨k + 1, m, by omega, by omega, by go_num, by rw [HN.out]; exact hown, Hb⟩
              case measure => simp [intOf]; omega
          · rw [hp] at G1
            have HN := K.H.mk (show newL M (l.take (k + 1)) = X by rw [HT.out]; unfold addN; rw [hp]; rfl)
            clear hp HT
            go_wp2_with (first | (go_at_call 29; first | (go_at_call 29; (with_reducible refine (G1.out _ (by repeat (first | (with_reducible exact Below.refl _ _) | (with_reducible exact Hw.out) | (with_reducible refine K.b_bel ?_ (by assumption)) | (with_reducible refine K.b_alloc ?_ _) | (with_reducible refine K.b_drewN ?_ _) | (with_reducible refine K.b_drew ?_) | (with_reducible refine K.b_set ?_ (by first | omega | (simp <;> omega)) _) | (with_reducible refine K.b_only ?_ (by assumption) (by first | omega | (simp <;> omega)))))).mono ?_); rintro e w' ⟨rfl, hw'⟩; have hw'2 := Eq.symm hw'; clear hw'; subst hw'2)))
            go_roundw
            case rel => exact ⟨k + 1, m, by omega, by omega, by go_num, by rw [HN.out]; exact hown, Hb⟩
            case measure => simp [intOf]; omega
        · obtain rfl : k = l.length := by omega
          rw [List.take_length] at hown

          obtain ⟨A7, c7, rfl, hnc, hcm, hR7⟩ := Sl.Rds.of_own2 hown
          rw [← flat_iv] at hR7
          have GA := K.H.mk (fun (W : World) (hb : Below w.heap.size w W) (hb2 : Below wr.heap.size wr W) => sorted_c (newL l M) A6 m6 c6 W ((HR6.out.below Hb.out).below hb2) (by omega))
          have GB := K.H.mk (fun (W : World) (hb2 : Below wr.heap.size wr W) => sorted_c (newL M l) A7 m c7 W (hR7.below hb2) (by omega))
          rw [newL_sort] at GA GB
          clear hown hnc hcm hR7
          go_wp2_with (go_at_call 26; first
            | ((with_reducible refine (GA.out _ (by repeat (first | (with_reducible exact Below.refl _ _) | (with_reducible exact Hw.out) | (with_reducible refine K.b_bel ?_ (by assumption)) | (with_reducible refine K.b_alloc ?_ _) | (with_reducible refine K.b_drewN ?_ _) | (with_reducible refine K.b_drew ?_) | (with_reducible refine K.b_set ?_ (by first | omega | (simp <;> omega)) _) | (with_reducible refine K.b_only ?_ (by assumption) (by first | omega | (simp <;> omega))))) (by repeat (first | (with_reducible exact Below.refl _ _) | (with_reducible refine K.b_bel ?_ (by assumption)) | (with_reducible refine K.b_alloc ?_ _) | (with_reducible refine K.b_drewN ?_ _) | (with_reducible refine K.b_drew ?_) | (with_reducible refine K.b_set ?_ (by first | omega | (simp <;> omega)) _) | (with_reducible refine K.b_only ?_ (by assumption) (by first | omega | (simp <;> omega)))))).mono ?_); rintro e W8 ⟨v8, rfl, hown8, hb8⟩; obtain ⟨hB8, hC8, hF8, hZ8⟩ := K.bel_facts hb8; clear hb8)
            | ((with_reducible refine (GB.out _ (by repeat (first | (with_reducible exact Below.refl _ _) | (with_reducible refine K.b_bel ?_ (by assumption)) | (with_reducible refine K.b_alloc ?_ _) | (with_reducible refine K.b_drewN ?_ _) | (with_reducible refine K.b_drew ?_) | (with_reducible refine K.b_set ?_ (by first | omega | (simp <;> omega)) _) | (with_reducible refine K.b_only ?_ (by assumption) (by first | omega | (simp <;> omega)))))).mono ?_); rintro e W9 ⟨v9, rfl, hown9, hb9⟩; obtain ⟨hB9, hC9, hF9, hZ9⟩ := K.bel_facts hb9; clear hb9))
          go_ret2
          have e8 := hown8.1
          have e9 := hown9.1
          simp at e8 e9
          rw [e8, e9]
          have hzw := Hw.out.size
          exact ⟨_, _, rfl, Sl.own_over (Sl.own_low hown8 hzw) hB9, Sl.own_low hown9 (Nat.le_trans hzw hZ8), (by repeat (first | (with_reducible exact Below.refl _ _) | (with_reducible exact Hw.out) | (with_reducible refine K.b_bel ?_ (by assumption)) | (with_reducible refine K.b_alloc ?_ _) | (with_reducible refine K.b_drewN ?_ _) | (with_reducible refine K.b_drew ?_) | (with_reducible refine K.b_set ?_ (by first | omega | (simp <;> omega)) _) | (with_reducible refine K.b_only ?_ (by assumption) (by first | omega | (simp <;> omega)))))⟩

end Go.Proofs.Ytpafbjffecpdmaa.Sb
