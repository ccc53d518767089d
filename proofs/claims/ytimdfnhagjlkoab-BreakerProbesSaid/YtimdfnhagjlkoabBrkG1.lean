/- BreakerGood. -/
import Derived.Test.YtimdfnhagjlkoabBrkR3
import Derived.Test.YtimdfnhagjlkoabBrkL1
namespace Go.Proofs.Ytimdfnhagjlkoab.Brk
open Go.RowKit Go.Proofs.Ytimdfnhagjlkoab
attribute [local go_sem] K.max2_int K.min2_int K.max_two K.min_two K.max_three K.min_three
set_option linter.unusedVariables false
set_option linter.unusedSimpArgs false
def what3 (n : Int) : Int := 1 + n.tmod 3 % 3
theorem what3_bounds (n : Int) : (-3 < n.tmod 3 ∧ n.tmod 3 < 3) ∧ (0 ≤ (n.tmod 3 + 3).tmod 3 ∧ (n.tmod 3 + 3).tmod 3 < 3) := by
  have h1 : -3 < n.tmod 3 := by have := Int.lt_tmod_of_pos n (show (0 : Int) < 3 by omega); omega
  have h2 := Int.tmod_lt_of_pos n (show (0 : Int) < 3 by omega)
  exact ⟨⟨h1, h2⟩, Int.tmod_nonneg _ (by omega), Int.tmod_lt_of_pos _ (by omega)⟩
/-- The acts that the law makes: good ones, tick by tick. -/
def goods : Nat → List Act → List Act
  | _, [] => []
  | k, x :: xs => ⟨what3 x.what, k, false, true⟩ :: goods (k + 1) xs
theorem goods_len : ∀ (xs : List Act) (k : Nat), (goods k xs).length = xs.length
  | [], _ => rfl
  | x :: xs, k => by simp [goods, goods_len xs]
theorem goods_snoc : ∀ (xs : List Act) (k : Nat) (x : Act), goods k (xs ++ [x]) = goods k xs ++ [⟨what3 x.what, ((k + xs.length : Nat) : Int), false, true⟩]
  | [], k, x => by simp [goods]
  | y :: ys, k, x => by
    simp only [List.cons_append, goods, goods_snoc ys]
    rw [show k + 1 + ys.length = k + (y :: ys).length from by simp; omega]
theorem goods_mem : ∀ (xs : List Act) (k : Nat) (y : Act), y ∈ goods k xs → 1 ≤ y.what ∧ y.what ≤ 3 ∧ (k : Int) ≤ y.tick ∧ y.tick < k + xs.length ∧ y.probe = false ∧ y.good = true
  | [], _, y, h => by cases h
  | x :: xs, k, y, h => by
    rcases List.mem_cons.1 h with rfl | h
    · have := what3_bounds x.what
      unfold what3
      simp; omega
    · obtain ⟨a1, a2, a3, a4, a5, a6⟩ := goods_mem xs (k + 1) y h
      refine ⟨a1, a2, by omega, ?_, a5, a6⟩
      rw [List.length_cons]; omega
theorem goods_srt : ∀ (xs : List Act) (k : Nat), srt (goods k xs) = true
  | [], _ => rfl
  | [x], _ => rfl
  | x :: y :: xs, k => by
    have := goods_srt (y :: xs) (k + 1)
    simp only [goods, srt, Bool.and_eq_true, decide_eq_true_eq] at this ⊢
    exact ⟨by push_cast; omega, this⟩
theorem goods_run (s : S) (hs : sets s = true) (xs : List Act) (h : ∀ y ∈ xs, 1 ≤ y.what ∧ y.what ≤ 3 ∧ y.probe = false ∧ y.good = true) :
    (runs s xs).1 = zero ∧ ∀ o ∈ (runs s xs).2, o = 0 := by
  suffices hh : ∀ (xs : List Act), (∀ y ∈ xs, 1 ≤ y.what ∧ y.what ≤ 3 ∧ y.probe = false ∧ y.good = true) → ∀ r : B × List Int, r.1 = zero → (∀ o ∈ r.2, o = 0) →
      (xs.foldl (fun r x => ((act r.1 s x).1, r.2 ++ [(act r.1 s x).2])) r).1 = zero ∧ ∀ o ∈ (xs.foldl (fun r x => ((act r.1 s x).1, r.2 ++ [(act r.1 s x).2])) r).2, o = 0 by
    exact hh xs h (zero, []) rfl (by simp)
  intro xs
  induction xs with
  | nil => intro _ r h1 h2; exact ⟨h1, h2⟩
  | cons x xs ih =>
    intro hx r h1 h2
    obtain ⟨a1, a2, a3, a4⟩ := hx x (List.mem_cons_self ..)
    have ha : act r.1 s x = (zero, 0) := by
      rw [h1]
      unfold act
      split
      · rfl
      · split
        · simp [ends, a3, a4, zero]
        · simp [allows, zero]
    simp only [List.foldl_cons, ha]
    refine ih (fun y hy => hx y (List.mem_cons_of_mem _ hy)) _ rfl ?_
    intro o ho
    rcases List.mem_append.1 ho with ho | ho
    · exact h2 o ho
    · simpa using ho
theorem goods_eRun (s : S) (xs : List Act) (h : xs.length ≤ 200) : eRun s (goods 0 xs) = if sets s then 0 else 4 := by
  have hm := goods_mem xs 0
  have k1 : Sl.anyOf badKind (goods 0 xs) = false := by
    unfold Sl.anyOf; rw [List.any_eq_false]
    intro y hy
    have := hm y hy
    simp [badKind, inB]; omega
  have k2 : Sl.anyOf badTick (goods 0 xs) = false := by
    unfold Sl.anyOf; rw [List.any_eq_false]
    intro y hy
    have := hm y hy
    simp [badTick, inB]; omega
  have k3 := goods_len xs 0
  cases hs : sets s
  · exact eRun_4 k1 (by omega) (.inl hs)
  · exact eRun_z k1 (by omega) hs k2 (goods_srt xs 0)

set_option maxRecDepth 100000 in
set_option maxHeartbeats 4000000 in
theorem Good_c (s : S) (xs : List Act) (A : Option Addr) (n c : Nat) (w : World) (hr : Sl.Rds w 4 A n (xs.flatMap Act.cs)) :
    Calls Try.prog 7 #[s.a, .slice A n c] w fun e w' => e = .returned (.bool true) ∧ Below w.heap.size w w' := by
  obtain rfl := hr.length (fun _ => rfl) (by omega)
  have hle := hr.le
  have Hr := K.H.mk hr
  clear hr
  go_enter Try.func7, Try.ntmps7
  go_wp2_with (go_at_call 8; (with_reducible refine (alive_c _).mono ?_); rintro e W1 ⟨rfl, hb1⟩; obtain ⟨hB1, hC1, hF1, hZ1⟩ := K.bel_facts hb1; clear hb1; have hZZ := hZ1; (try simp at hZZ); have hz1_0 : w.heap.size < W1.heap.size := (by omega); clear hZZ)
  refine K.wp_gen (fun W => K.At W w.heap.size 25 #[.int .i64 s.fails, .int .i64 s.opn, .int .i64 s.probes] ∧ Below w.heap.size w W) ⟨(by refine K.At.cast (by repeat (first | (with_reducible refine K.At.new' _ _ _ _ (by first | rfl | (simp; done) | omega)) | (with_reducible apply K.At.over hB1) | (with_reducible apply K.At.set) | (with_reducible apply K.At.alloc) | (with_reducible apply K.At.drewN) | (with_reducible apply K.At.drew) | (with_reducible apply K.At.far) | omega | (simp <;> omega))) ?_; rfl), (by repeat (first | (with_reducible exact Below.refl _ _) | (with_reducible refine K.b_bel ?_ (by assumption)) | (with_reducible refine K.b_alloc ?_ _) | (with_reducible refine K.b_drewN ?_ _) | (with_reducible refine K.b_drew ?_) | (with_reducible refine K.b_set ?_ (by first | omega | (simp <;> omega)) _) | (with_reducible refine K.b_only ?_ (by assumption) (by first | omega | (simp <;> omega)))))⟩ ?_
  rintro W2 ⟨hA, hb2⟩
  have Hb2 := K.H.mk hb2
  clear hb2
  ((try clear hC1); (try clear hF1); (try clear hZ1); (try clear hc1); (try clear hf1); (try clear hl1); (try clear hB1); (try clear hO1); (try clear hA1); (try clear hz1_0); (try clear hz1_1); (try clear hz1_2); (try clear hz1_3))
  go_loopw [5, 6] (fun v i wr => ∃ k : Nat, k ≤ xs.length ∧ k ≤ 200 ∧ i = .int .i64 k ∧ wr.ownsRow (w.heap.size + 1) 49 4 v k ((goods 0 (xs.take k)).flatMap Act.cs) ∧ K.At wr w.heap.size 25 #[.int .i64 s.fails, .int .i64 s.opn, .int .i64 s.probes] ∧ K.H (Below w.heap.size w wr)) (fun _ i _ => xs.length - (intOf i).toNat)
  case atStart => exact ⟨0, by omega, by omega, rfl, World.ownsRow_nil _ _ _ _, hA, Hb2⟩
  case round =>
    clear hA Hb2
    obtain ⟨k, hk, hk2, rfl, hown, hA, Hb⟩ := hrel
    by_cases hlt : k < xs.length ∧ k < 200
    · obtain ⟨hlt, hlt2⟩ := hlt
      obtain ⟨x, hx⟩ : ∃ x, xs[k]? = some x := ⟨_, List.getElem?_eq_getElem hlt⟩
      have Hsn := K.H.mk (show goods 0 (xs.take (k + 1)) = goods 0 (xs.take k) ++ [⟨what3 x.what, k, false, true⟩] from by
        obtain ⟨hkk, hxx⟩ := List.getElem?_eq_some_iff.1 hx
        rw [List.take_succ_eq_append_getElem hkk, hxx, goods_snoc, List.length_take, Nat.min_eq_left (by omega), Nat.zero_add])
      generalize goods 0 (xs.take k) = gs at hown Hsn
      obtain ⟨b, off, rfl, hbl, hbc⟩ := Sl.Rds.elem Hr.out Act.cs_len (by omega) hx
      have q_0 : wr.cell? ⟨b, off + k * 4, none⟩ = some (.int .i64 x.what) := (Hb.out.cell (p := ⟨b, off + k * 4 + 0, none⟩) hbl).trans (hbc 0 (by omega))
      have q_1 : wr.cell? ⟨b, off + k * 4 + 1, none⟩ = some (.int .i64 x.tick) := (Hb.out.cell (p := ⟨b, off + k * 4 + 1, none⟩) hbl).trans (hbc 1 (by omega))
      have q_2 : wr.cell? ⟨b, off + k * 4 + 2, none⟩ = some (.bool x.probe) := (Hb.out.cell (p := ⟨b, off + k * 4 + 2, none⟩) hbl).trans (hbc 2 (by omega))
      have q_3 : wr.cell? ⟨b, off + k * 4 + 3, none⟩ = some (.bool x.good) := (Hb.out.cell (p := ⟨b, off + k * 4 + 3, none⟩) hbl).trans (hbc 3 (by omega))
      clear hbc
      have hbw : b < wr.heap.size := Nat.lt_of_lt_of_le hbl Hb.out.size
      obtain ⟨⟨t0, t1⟩, ⟨t2, t3⟩⟩ := what3_bounds x.what
      clear hx
      have hq := Sl.own_ne hown hA (by decide)
      have hAl := hA.lt
      go_wp2_with (at_builtin; refine Sl.app1 (news := [.int .i64 (what3 x.what), .int .i64 k, .bool false, .bool true]) rfl _ _ 40 49 (.agg #[.int .i64 0, .int .i64 0, .bool false, .bool false]) rfl Try.underlying40 (by kernel_rfl : (Try.prog.info? 49).map (fun i => (i.zero, i.size, i.bytes)) = some (some (.agg #[.int .i64 0, .int .i64 0, .bool false, .bool false]), 4, 24)) rfl (by decide) (by decide) rfl ((hown.alloc _).alloc _) rfl rfl (Sl.new_cells _ _ _ _ (by first | rfl | simp)) (by simp [Value.oneCell']) (by omega) (by simp <;> omega) ?_; intro v8 W8 hown8 hgr8)
      go_roundw
      case rel =>
        refine ⟨k + 1, by omega, by omega, by go_num, ?_, ?_, ⟨?_⟩⟩
        · rw [Hsn.out, List.flatMap_append]; exact hown8
        · exact Sl.at_grown (by refine K.At.cast (by repeat (first | (with_reducible exact hA) | (with_reducible refine K.At.new' _ _ _ _ (by first | rfl | (simp; done) | omega)) | (with_reducible apply K.At.set) | (with_reducible apply K.At.alloc) | (with_reducible apply K.At.drewN) | (with_reducible apply K.At.drew) | (with_reducible apply K.At.far) | omega | (simp <;> omega))) ?_; rfl) hgr8 hq
        · exact Sl.below_grown (by repeat (first | (with_reducible exact Below.refl _ _) | (with_reducible exact Hb.out) | (with_reducible refine K.b_bel ?_ (by assumption)) | (with_reducible refine K.b_alloc ?_ _) | (with_reducible refine K.b_drewN ?_ _) | (with_reducible refine K.b_drew ?_) | (with_reducible refine K.b_set ?_ (by first | omega | (simp <;> omega)) _) | (with_reducible refine K.b_only ?_ (by assumption) (by first | omega | (simp <;> omega))))) hgr8 (fun k hk => by have := Sl.own_base hown k hk; omega)
      case measure => simp [intOf]; omega
    · have hfin : k = xs.length ∨ k = 200 := by omega
      obtain ⟨m, hm, hmk⟩ : ∃ ys : List Act, ys = xs.take k ∧ ys.length ≤ 200 := ⟨_, rfl, by rw [List.length_take]; omega⟩
      rw [← hm] at hown
      obtain ⟨A2, c2, rfl, hR⟩ := Sl.Rds.of_own hown
      have HR := K.H.mk hR
      have Hf := K.H.mk hfin
      have Hlt := K.H.mk hlt
      have He := K.H.mk (goods_eRun s m hmk)
      clear hR hm hlt
      obtain ⟨hc5, hf5, hl5⟩ := K.At.facts hA
      have hcn : ¬ (k < xs.length ∧ k < 200) := by have := Hlt.out; exact this
      cases hss : sets s
      · have HN : ∀ W, K.Bel wr W → Calls Try.prog 16 #[s.a, .slice A2 k c2] W (RunPost W zero [] 4) := fun W hb => by
          have h2 := Run_c s (goods 0 m) A2 k c2 W (HR.out.bel hb)
          rw [show eRun s (goods 0 m) = 4 from by rw [He.out, hss]; rfl, show oRun s (goods 0 m) = (zero, []) from by unfold oRun; rw [if_neg]; rw [He.out, hss]; decide] at h2
          exact h2
        have GN := K.H.mk HN
        clear HN
        go_wp2_with (first | (go_at_call 16; (with_reducible refine (GN.out _ ⟨Below.refl _ _⟩).mono ?_); rintro e W9 ⟨v9, rfl, hown9, hb9⟩; obtain ⟨A9, c9, rfl, hR9⟩ := Sl.Rds.of_own hown9; obtain ⟨hB9, hC9, hF9, hZ9⟩ := K.bel_facts hb9; clear hb9) | (go_at_call 10; (with_reducible refine (num_c _ _).mono ?_); rintro e w' ⟨rfl, hw'⟩; have hw'2 := Eq.symm hw'; clear hw'; subst hw'2))
        all_goals first
          | (exfalso; omega)
          | (go_ret; exact ⟨rfl, (by repeat (first | (with_reducible exact Below.refl _ _) | (with_reducible exact Hb.out) | (with_reducible refine K.b_bel ?_ (by assumption)) | (with_reducible refine K.b_alloc ?_ _) | (with_reducible refine K.b_drewN ?_ _) | (with_reducible refine K.b_drew ?_) | (with_reducible refine K.b_set ?_ (by first | omega | (simp <;> omega)) _) | (with_reducible refine K.b_only ?_ (by assumption) (by first | omega | (simp <;> omega)))))⟩)
      · have hg := goods_run s hss (goods 0 m) (fun y hy => by have := goods_mem m 0 y hy; exact ⟨this.1, this.2.1, this.2.2.2.2⟩)
        have HN : ∀ W, K.Bel wr W → Calls Try.prog 16 #[s.a, .slice A2 k c2] W (RunPost W zero (runs s (goods 0 m)).2 0) := fun W hb => by
          have h2 := Run_c s (goods 0 m) A2 k c2 W (HR.out.bel hb)
          rw [show eRun s (goods 0 m) = 0 from by rw [He.out, hss]; rfl, show oRun s (goods 0 m) = runs s (goods 0 m) from by unfold oRun; rw [if_pos]; rw [He.out, hss]; rfl, hg.1] at h2
          exact h2
        have GN := K.H.mk HN
        have H0 := K.H.mk hg.2
        generalize (runs s (goods 0 m)).2 = tl at GN H0
        clear HN hg
        go_wp2_with (first | (go_at_call 16; (with_reducible refine (GN.out _ ⟨Below.refl _ _⟩).mono ?_); rintro e W9 ⟨v9, rfl, hown9, hb9⟩; obtain ⟨A9, c9, rfl, hR9⟩ := Sl.Rds.of_own hown9; obtain ⟨hB9, hC9, hF9, hZ9⟩ := K.bel_facts hb9; clear hb9) | (go_at_call 10; (with_reducible refine (num_c _ _).mono ?_); rintro e w' ⟨rfl, hw'⟩; have hw'2 := Eq.symm hw'; clear hw'; subst hw'2))
        all_goals
          refine K.wp_gen (fun W => K.At W W9.heap.size 23 #[.int .i64 0, .int .i64 0, .int .i64 0, .int .i64 0, .int .i64 0] ∧ Sl.Rds W 1 A9 tl.length (tl.flatMap fun n => [.int .i64 n]) ∧ Below w.heap.size w W) ⟨K.At.new _ _ _, (by rw [← Sl.map_flat]; exact hR9.below (K.b_alloc (Below.refl _ _) _)), (by repeat (first | (with_reducible exact Below.refl _ _) | (with_reducible exact Hb.out) | (with_reducible refine K.b_bel ?_ (by assumption)) | (with_reducible refine K.b_alloc ?_ _) | (with_reducible refine K.b_drewN ?_ _) | (with_reducible refine K.b_drew ?_) | (with_reducible refine K.b_set ?_ (by first | omega | (simp <;> omega)) _) | (with_reducible refine K.b_only ?_ (by assumption) (by first | omega | (simp <;> omega)))))⟩ ?_
          rintro W10 ⟨hP, hR10, hb10⟩
          have HR10 := K.H.mk hR10
          have Hb10 := K.H.mk hb10
          have htl := hR10.le
          clear hR10 hb10 hR9
          generalize W9.heap.size = g9 at hP ⊢
          go_loop [11] (fun i => ∃ j : Nat, j ≤ tl.length ∧ i = .int .i64 j) (fun i => tl.length - (intOf i).toNat)
          case atStart => exact ⟨0, by omega, rfl⟩
          case round =>
            obtain ⟨j, hj, rfl⟩ := hrel
            by_cases hjl : j < tl.length
            · obtain ⟨y, hy⟩ : ∃ y, tl[j]? = some y := ⟨_, List.getElem?_eq_getElem hjl⟩
              have hy0 : y = 0 := H0.out y (List.mem_of_getElem? hy)
              obtain ⟨b, off, rfl, hbl, hbc⟩ := Sl.Rds.elem HR10.out (enc := fun n => [.int .i64 n]) (fun _ => rfl) (by omega) hy
              have q_0 : W10.cell? ⟨b, off + j, none⟩ = some (.int .i64 y) := by
                have := ((Below.refl _ W10).cell (p := ⟨b, off + j * 1 + 0, none⟩) hbl).trans (hbc 0 (by omega))
                simpa using this
              rw [hy0] at q_0
              clear hy0 hbc hy
              go_wp2
              go_round
              case rel => exact ⟨j + 1, by omega, by go_num⟩
              case measure => simp [intOf]; omega
            · obtain ⟨hc7, hf7, hl7⟩ := K.At.facts hP
              go_wp2
              all_goals (go_ret; exact ⟨rfl, Hb10.out⟩)
end Go.Proofs.Ytimdfnhagjlkoab.Brk
