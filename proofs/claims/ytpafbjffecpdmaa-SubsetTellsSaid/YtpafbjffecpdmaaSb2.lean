/- Subset: draw.Shuffle. -/
import Derived.Test.YtpafbjffecpdmaaSb1
import Derived.Test.YtpafbjffecpdmaaMy
import Derived.Laws.OwnMore
set_option linter.unusedVariables false
namespace Go.Proofs.Ytpafbjffecpdmaa.Sb
open Go.RowKit Go.Proofs.Ytpafbjffecpdmaa
attribute [local go_sem] K.max2_int K.min2_int K.max_two K.min_two K.max_three K.min_three
set_option linter.unusedSimpArgs false
abbrev iv (n : Int) : Value := .int .i64 n
def rangeI (k : Nat) : List Int := (List.range k).map fun i : Nat => (i : Int)
theorem rangeI_succ (k : Nat) : rangeI (k + 1) = rangeI k ++ [(k : Int)] := by simp [rangeI, List.range_succ]
theorem rangeI_len (k : Nat) : (rangeI k).length = k := by simp [rangeI]
/-- Two places change their numbers. -/
def swp (L : List Int) (k m : Nat) : List Int := (L.set k (L.getD m 0)).set m (L.getD k 0)
theorem swp_len (L : List Int) (k m : Nat) : (swp L k m).length = L.length := by simp [swp]
def shufL (nx : Nat → Nat) (bl : Nat → Nat → Nat) : Nat → Nat → List Int → Nat × List Int
  | 0, s, L => (s, L)
  | m + 1, s, L => if m = 0 then (s, L) else shufL nx bl m (nx s) (swp L (bl s (m + 1)) m)
theorem shufL_step {nx : Nat → Nat} {bl : Nat → Nat → Nat} {m s : Nat} {L : List Int} (h : 0 < m) : shufL nx bl (m + 1) s L = shufL nx bl m (nx s) (swp L (bl s (m + 1)) m) := by
  show (if m = 0 then (s, L) else shufL nx bl m (nx s) (swp L (bl s (m + 1)) m)) = _
  rw [if_neg (by omega)]
theorem shufL_end {nx : Nat → Nat} {bl : Nat → Nat → Nat} {m s : Nat} {L : List Int} (h : m ≤ 1) : shufL nx bl m s L = (s, L) := by
  match m, h with
  | 0, _ => rfl
  | 1, _ => rfl
def shufG (nx : Nat → Nat) (bl : Nat → Nat → Nat) (s n : Nat) : Nat × List Int := shufL nx bl n s (rangeI n)
def shuf (s n : Nat) : Nat × List Int := shufG nextS belN s n
theorem own_form {w : World} {base : Nat} {e : TypeId} {size : Nat} {v : Value} {n : Nat} {xs : List Value} (h : w.ownsRow base e size v n xs) (hn : 0 < n) : ∃ g cap, v = .slice (some ⟨g, 0, none⟩) n cap ∧ base ≤ g ∧ g < w.heap.size := by
  rcases h.2 with ⟨_, h0⟩ | ⟨g, cap, cur, hv, hb, hg, _⟩
  · omega
  · exact ⟨g, cap, hv, hb, (Array.getElem?_eq_some_iff.1 hg).1⟩
theorem at_set_far {w : World} {g b off : Nat} {T : TypeId} {cs : Array Value} {u : Value} (h : K.At w g T cs) (hn : b ≠ g) : K.At (w.setCell ⟨b, off, none⟩ u) g T cs :=
  ⟨by rw [Below.heap_setCell _ _ _ _ (by simpa using fun e => hn e.symm)]; exact h.out⟩
theorem map_getD {L : List Int} {k : Nat} (h : k < L.length) : (L.map iv)[k]? = some (iv (L.getD k 0)) := by
  rw [List.getElem?_map, List.getD_eq_getElem?_getD, List.getElem?_eq_getElem h]; rfl
theorem swp_map (L : List Int) (k m : Nat) : ((L.map iv).set k (iv (L.getD m 0))).set m (iv (L.getD k 0)) = (swp L k m).map iv := by
  unfold swp; rw [List.map_set, List.map_set]
set_option maxRecDepth 100000 in
set_option maxHeartbeats 4000000 in
theorem ShuffleG (nx : Nat → Nat) (bl : Nat → Nat → Nat) (hnx : ∀ s, nx s < 18446744073709551616) (hbl0 : ∀ s n, 1 ≤ n → bl s n < n)
    (hB : ∀ (s n g : Nat) (w : World), K.At w g 79 #[.int .u64 s] → 1 ≤ n → n ≤ 1048576 → Calls Try.prog 52 #[.pointer (some ⟨g, 0, none⟩), .int .i64 n] w fun e w' => e = .returned (.int .i64 (bl s n : Nat)) ∧ K.At w' g 79 #[.int .u64 (nx s : Nat)] ∧ w.grownBy w' (some g))
    (s n : Nat) (w : World) (hs : s < 18446744073709551616) (hn : n ≤ 1024) :
    Calls Try.prog 42 #[.int .u64 s, .int .i64 n] w fun e w' => ∃ v, e = .returned (.tuple #[.int .u64 ((shufG nx bl s n).1 : Nat), v, .int .i64 0]) ∧ w'.ownsRow w.heap.size 3 1 v n ((shufG nx bl s n).2.map iv) ∧ Below w.heap.size w w' := by
  have d1 : decide ((n : Int) < 0) = false := decide_eq_false (by omega)
  have d2 : decide ((1024 : Int) < n) = false := decide_eq_false (by omega)
  obtain ⟨p, hp⟩ : ∃ p, p = shufG nx bl s n := ⟨_, rfl⟩
  rw [← hp]
  have Hp := K.H.mk hp
  clear hp
  go_enter Try.func42, Try.ntmps42
  go_wp2
  refine K.wp_gen (fun W => K.At W w.heap.size 79 #[.int .u64 s] ∧ Below w.heap.size w W) ⟨(by refine K.At.cast (by repeat (first | (with_reducible refine K.At.new' _ _ _ _ (by first | rfl | (simp; done) | omega)) | (with_reducible apply K.At.set) | (with_reducible apply K.At.alloc) | (with_reducible apply K.At.drewN) | (with_reducible apply K.At.drew) | (with_reducible apply K.At.far) | omega | (simp <;> omega))) ?_; rfl), (by repeat (first | (with_reducible exact Below.refl _ _) | (with_reducible refine K.b_bel ?_ (by assumption)) | (with_reducible refine K.b_alloc ?_ _) | (with_reducible refine K.b_drewN ?_ _) | (with_reducible refine K.b_drew ?_) | (with_reducible refine K.b_set ?_ (by first | omega | (simp <;> omega)) _) | (with_reducible refine K.b_only ?_ (by assumption) (by first | omega | (simp <;> omega)))))⟩ ?_
  rintro W1 ⟨hS1, hb1⟩
  have Hb1 := K.H.mk hb1
  clear hb1 d1 d2
  go_loopw [8, 21] (fun v i wr => ∃ k : Nat, k ≤ n ∧ i = .int .i64 k ∧ K.At wr w.heap.size 79 #[.int .u64 s] ∧ wr.ownsRow w.heap.size 3 1 v k ((rangeI k).map iv) ∧ K.H (Below w.heap.size w wr)) (fun _ i _ => n - (intOf i).toNat)
  case atStart => exact ⟨0, by omega, rfl, hS1, World.ownsRow_nil _ _ _ _, Hb1⟩
  case round =>
    clear hS1 Hb1
    obtain ⟨k, hk, rfl, hS, hown, Hb⟩ := hrel
    have hwl := hS.lt
    by_cases hlt : k < n
    · have hlt2 : (k : Int) < n := by omega
      go_wp2_with (first | (at_builtin; refine Sl.app1 (news := [.int .i64 k]) rfl _ _ 22 3 (.int .i64 0) rfl Try.underlying22 (by kernel_rfl : (Try.prog.info? 3).map (fun i => (i.zero, i.size, i.bytes)) = some (some (.int .i64 0), 1, 8)) rfl (by decide) (by decide) rfl ((hown).alloc _) rfl rfl (Sl.new_cells _ _ _ _ (by first | rfl | simp)) (by simp [Value.oneCell']) (by omega) (by simp <;> omega) ?_; intro v8 W8 hown8 hgr8))
      have hq := Sl.own_ne hown hS (by decide)
      go_roundw
      case rel =>
        refine ⟨k + 1, by omega, by go_num, Sl.at_grown (hS.alloc _) hgr8 hq, by rw [rangeI_succ]; simpa using hown8, ⟨?_⟩⟩
        exact Sl.below_grown (K.b_alloc Hb.out _) hgr8 (fun k hk => Sl.own_base hown k hk)
      case measure => simp [intOf]; omega
    · obtain rfl : k = n := by omega
      obtain ⟨A, c, rfl, hnc, hcm, hR⟩ := Sl.Rds.of_own2 hown
      have hc9 : (c : Int) ≤ 9223372036854775807 := by unfold maxLen at hcm; omega
      clear hR hcm
      go_wp2
      go_loopw [10] (fun l wr => ∃ (m s' : Nat) (L : List Int), m ≤ k ∧ l = .slice A m c ∧ s' < 18446744073709551616 ∧ L.length = k ∧ K.At wr w.heap.size 79 #[.int .u64 s'] ∧ wr.ownsRow w.heap.size 3 1 (.slice A k c) k (L.map iv) ∧ K.H (Below w.heap.size w wr) ∧ K.H (p = shufL nx bl m s' L)) (fun l _ => match l with | .slice _ m _ => m | _ => 0)
      case atStart => exact ⟨k, s, rangeI k, by omega, rfl, hs, rangeI_len k, hS, hown, Hb, ⟨Hp.out⟩⟩
      case round =>
        clear hS hown Hb Hp hlt hwl
        obtain ⟨m, s', L, hm, rfl, hs', hL, hS, hown, Hb, HP⟩ := hrel
        by_cases hlt : 1 < m
        · obtain ⟨m, rfl⟩ : ∃ j, m = j + 1 := ⟨m - 1, by omega⟩
          have hstep := shufL_step (nx := nx) (bl := bl) (m := m) (s := s') (L := L) (by omega)
          have HN := K.H.mk (HP.out.trans hstep)
          have hbl := hbl0 s' (m + 1) (by omega)
          have hl1 : (1 : Int) < ((m + 1 : Nat) : Int) := by omega
          have hl2 : ((m + 1 : Nat) : Int) = (m : Int) + 1 := by omega
          have GB := K.H.mk (show ∀ W : World, K.At W w.heap.size 79 #[.int .u64 s'] → Calls Try.prog 52 #[.pointer (some ⟨w.heap.size, 0, none⟩), .int .i64 ((m : Int) + 1)] W fun e w' => e = .returned (.int .i64 (bl s' (m + 1) : Nat)) ∧ K.At w' w.heap.size 79 #[.int .u64 (nx s' : Nat)] ∧ W.grownBy w' (some w.heap.size) from fun W hW => by have h := hB s' (m + 1) w.heap.size W hW (by omega) (by omega); rw [hl2] at h; exact h)
          obtain ⟨b1, cap1, he1, hbg, hbl1⟩ := own_form hown (by omega)
          cases he1
          have hqs := Sl.own_ne hown hS (by decide)
          have hbs : b1 ≠ w.heap.size := fun e => hqs (by rw [e]; rfl)
          clear HP hstep
          generalize bl s' (m + 1) = kk at *
          go_wp2_with (first | (go_at_call 52; (with_reducible refine (GB.out wr hS).mono ?_); rintro e W5 ⟨rfl, hA5, ho5⟩; have hO5 := K.Only.mk ho5; clear ho5; obtain ⟨hC5, hF5, hZ5⟩ := K.only_facts hO5; obtain ⟨hc5, hf5, hl5⟩ := K.At.facts hA5))
          have hown5 := Sl.own_past hown hO5 hqs
          have hst := ((hown5.stored kk (iv (L.getD m 0))).1.stored m (iv (L.getD kk 0))).1
          have hu1 := (hown5.stored kk (iv (L.getD m 0))).1.cellAt m (by omega)
          rw [swp_map] at hst
          have hc_k : W5.cell? ⟨b1, kk, none⟩ = some (.int .i64 (L.getD kk 0)) := by rw [hown5.cellAt kk (by omega), map_getD (by omega)]
          have hc_m : W5.cell? ⟨b1, m, none⟩ = some (.int .i64 (L.getD m 0)) := by rw [hown5.cellAt m (by omega), map_getD (by omega)]
          have hf_k := hown5.frozenAt kk
          have hf_m := hown5.frozenAt m
          obtain ⟨u, hu⟩ : ∃ u, ((L.map iv).set kk (iv (L.getD m 0)))[m]? = some u := ⟨_, List.getElem?_eq_getElem (by rw [List.length_set, List.length_map]; omega)⟩
          rw [hu] at hu1
          clear hu
          have hsl := swp_len L kk m
          generalize swp L kk m = L2 at *
          generalize L.getD m 0 = vm at *
          generalize L.getD kk 0 = vk at *
          have Hst := K.H.mk hst
          have hbl5 : b1 < W5.heap.size := by omega
          have hk1 : (kk : Int) < (m : Int) + 1 := by omega
          have hk2 : (kk : Int) < ((m + 1 : Nat) : Int) := by omega
          have hb5 : Below w.heap.size w W5 := K.b_only Hb.out hO5 (Nat.le_refl _)
          have Hb5 := K.H.mk hb5
          have hm1 : (m : Int) ≤ (c : Int) := by omega
          have hm2 : (m : Int) < (m : Int) + 1 := by omega
          have hk0 : (0 : Int) ≤ (kk : Int) := by omega
          have hA6 := hA5
          clear hown hown5 hS hst hb5 GB hC5 hF5
          go_region
          all_goals go_wp2
          all_goals
            go_roundw
            case rel => exact ⟨m, nx s', L2, by omega, rfl, hnx _, by omega, at_set_far (at_set_far hA6.drew hbs) hbs, Hst.out, ⟨(by repeat (first | (with_reducible exact Below.refl _ _) | (with_reducible exact Hb5.out) | (with_reducible refine K.b_bel ?_ (by assumption)) | (with_reducible refine K.b_alloc ?_ _) | (with_reducible refine K.b_drewN ?_ _) | (with_reducible refine K.b_drew ?_) | (with_reducible refine K.b_set ?_ (by first | omega | (simp <;> omega)) _) | (with_reducible refine K.b_only ?_ (by assumption) (by first | omega | (simp <;> omega)))))⟩, HN⟩
            case measure => simp
        · have HE := K.H.mk (HP.out.trans (shufL_end (by omega)))
          have hl1 : ¬ (1 : Int) < (m : Int) := by omega
          obtain ⟨hc4, hf4, hl4⟩ := K.At.facts hS
          go_wp2
          ((try simp only [Exit.inBlock, Exit.then]); refine bodyPost_ret (v := .tuple #[.int .u64 s', .slice A k c, .int .i64 0]) (by simp only [results, Try.results42]; go_simp) rfl ?_)
          rw [HE.out]
          exact ⟨_, rfl, hown, Hb.out⟩
theorem Shuffle_c (s n : Nat) (w : World) (hs : s < 18446744073709551616) (hn : n ≤ 1024) :
    Calls Try.prog 42 #[.int .u64 s, .int .i64 n] w fun e w' => ∃ v, e = .returned (.tuple #[.int .u64 ((shuf s n).1 : Nat), v, .int .i64 0]) ∧ w'.ownsRow w.heap.size 3 1 v n ((shuf s n).2.map iv) ∧ Below w.heap.size w w' :=
  ShuffleG nextS belN nextS_lt belN_lt (fun s n g w h h1 h2 => below_c s n g w h h1 h2) s n w hs hn
end Go.Proofs.Ytpafbjffecpdmaa.Sb
